/- A small library over any program: a slice value that can be read as a list of cells, and what follows from it. -/
import Derived.WalkKit
import Derived.WalkSpells
import Derived.WalkLawsBesides
import Derived.BigQuiet
import Derived.Lib.Hide
import Derived.TacticsIn
import Derived.Laws.EntriesVeiled
namespace Go.Proofs.Ytighnjbcnfnpmaa
open Go.RowKit

/-- The slice value v has length vs.length, and its elements (one cell each) can be read as vs. -/
def Vw (w : World) (v : Value) (vs : List Value) : Prop :=
  ∃ a c, v = .slice a vs.length c ∧ ∀ i (h : i < vs.length), ∃ b off, a = some ⟨b, off, none⟩ ∧ w.cell? ⟨b, off + i, none⟩ = some vs[i]

theorem Vw.nil (w : World) (a : Option Addr) (c : Nat) : Vw w (.slice a 0 c) [] := ⟨a, c, rfl, fun _ h => by simp at h⟩

theorem Vw.split {w : World} {v : Value} {vs : List Value} (h : Vw w v vs) :
    (∃ a c, v = .slice a 0 c ∧ vs = []) ∨ (∃ b off c, v = .slice (some ⟨b, off, none⟩) vs.length c ∧ 0 < vs.length ∧ ∀ i (_ : i < vs.length), w.cell? ⟨b, off + i, none⟩ = some vs[i]) := by
  obtain ⟨a, c, rfl, h⟩ := h
  cases vs with
  | nil => exact .inl ⟨a, c, rfl, rfl⟩
  | cons x l =>
    obtain ⟨b, off, rfl, _⟩ := h 0 (by simp)
    refine .inr ⟨b, off, c, rfl, by simp, fun i hi => ?_⟩
    obtain ⟨b', off', e, hc⟩ := h i hi
    simp at e
    obtain ⟨rfl, rfl⟩ := e
    exact hc

section rows
variable {P : Program}
theorem run_storeAt_row (w : World) (g off : Nat) (t ty : TypeId) (cur : Array Value) (v : Value) (hg : w.heap[g]? = some (.cells cur t (0, 0))) (hi : (P.info? ty).map (·.size) = some v.cells.size)
    (hfit : off + v.cells.size ≤ cur.size) (h1 : ∀ u ∈ v.cells.toList, u.oneCell' = true) :
    (Instr.storeAt ty (.pointer (some ⟨g, off, none⟩)) v).run P w = .ok () (w.setRow g (cur.toList.take off ++ v.cells.toList ++ cur.toList.drop (off + v.cells.size)).toArray) := by
  have hst := run_storeCells_at P g off t v.cells.toList 0 cur w hg (by simpa using hfit) h1
  cases hq : P.info? ty with
  | none => simp [hq] at hi
  | some i =>
    have hs : i.size = v.cells.size := by simpa [hq] using hi
    simp only [Nat.add_zero, Array.length_toList] at hst
    simp [Instr.storeAt, Instr.sureAddr, storeVar, sizeOf, typeInfo, hq, hs, hst]
theorem wpList_run_value {ops : Array Oper} {rest : List Oper} {o : Oper} {a : Act} {w w' : World} {v : Value} {Q : Exit → Act → World → Prop} (hgd : o.guard = none)
    (hrun : (execOp a.eval o).run P w = .ok (.value v) w') (h : wpList P ops Q rest (a.put o.dst v) w') : wpList P ops Q (o :: rest) a w :=
  wpList_plain hgd fun _ hK => by unfold Oper.wp; rw [hrun]; exact hK _ _ h
theorem wpList_run_skip {ops : Array Oper} {rest : List Oper} {o : Oper} {a : Act} {w w' : World} {Q : Exit → Act → World → Prop} (hgd : o.guard = none)
    (hrun : (execOp a.eval o).run P w = .ok .skip w') (h : wpList P ops Q rest (a.put o.dst undef) w') : wpList P ops Q (o :: rest) a w :=
  wpList_plain hgd fun _ hK => by unfold Oper.wp; rw [hrun]; exact hK _ _ h
theorem wpListIn_run_value {F : Fence} {n : Nat} {ops : Array Oper} {rest : List Oper} {o : Oper} {a : Act} {w w' : World} {v : Value} {Q : Exit → Act → World → Prop} (hgd : o.guard = none)
    (hab : o.about P w a.eval = none) (hdf : ∀ c, o.op ≠ .defer c)
    (hrun : (execOp a.eval o).run P w = .ok (.value v) w') (h : wpListIn F n P ops Q rest (a.put o.dst v) w') : wpListIn F n P ops Q (o :: rest) a w :=
  wpListIn_plain hgd fun _ hK => by
    unfold Oper.wpIn
    rw [Oper.semAt_eq _ _ _ hdf, hrun]
    exact ⟨fun f hf => (by rw [hab] at hf; cases hf), hK _ _ h⟩
theorem wpListIn_run_skip {F : Fence} {n : Nat} {ops : Array Oper} {rest : List Oper} {o : Oper} {a : Act} {w w' : World} {Q : Exit → Act → World → Prop} (hgd : o.guard = none)
    (hab : o.about P w a.eval = none) (hdf : ∀ c, o.op ≠ .defer c)
    (hrun : (execOp a.eval o).run P w = .ok .skip w') (h : wpListIn F n P ops Q rest (a.put o.dst undef) w') : wpListIn F n P ops Q (o :: rest) a w :=
  wpListIn_plain hgd fun _ hK => by
    unfold Oper.wpIn
    rw [Oper.semAt_eq _ _ _ hdf, hrun]
    exact ⟨fun f hf => (by rw [hab] at hf; cases hf), hK _ _ h⟩

theorem exec_store_row {o : Oper} {a : Act} {w : World} (ty : TypeId) (x y : Operand) (ho : o.op = .store ty x y)
    (g off : Nat) (hx : a.eval x = .pointer (some ⟨g, off, none⟩)) (t : TypeId) (cur : Array Value) (v : Value) (hy : a.eval y = v) (hg : w.heap[g]? = some (.cells cur t (0, 0)))
    (hi : (P.info? ty).map (·.size) = some v.cells.size) (hfit : off + v.cells.size ≤ cur.size) (h1 : ∀ u ∈ v.cells.toList, u.oneCell' = true) :
    (execOp a.eval o).run P w = .ok .skip (w.setRow g (cur.toList.take off ++ v.cells.toList ++ cur.toList.drop (off + v.cells.size)).toArray) := by
  unfold execOp
  simp only [ho, hx, hy, Sem.run_bind, run_storeAt_row w g off t ty cur v hg hi hfit h1, Result.andThen_ok, Sem.run_pure]
theorem setRow_alloc (w : World) (cs cs' : Array Value) (t : TypeId) : (w.alloc (.cells cs t)).setRow w.heap.size cs' = w.alloc (.cells cs' t) := by
  unfold World.setRow World.alloc
  congr 1
  apply Array.ext_getElem?
  intro i
  simp only [Array.getElem?_modify, Array.getElem?_push]
  by_cases h : i = w.heap.size
  · subst h; simp
  · simp [h, Ne.symm h]
theorem splice_all (cur : Array Value) (v : Value) (h : v.cells.size = cur.size) : (cur.toList.take 0 ++ v.cells.toList ++ cur.toList.drop (0 + v.cells.size)).toArray = v.cells := by
  rw [List.take_zero, List.nil_append, List.drop_eq_nil_of_le (by simp [h]), List.append_nil]
/-- A variable that was laid just before is filled whole. -/
theorem exec_store_new {o : Oper} {a : Act} {w : World} (ty : TypeId) (x y : Operand) (ho : o.op = .store ty x y)
    (hx : a.eval x = .pointer (some ⟨w.heap.size, 0, none⟩)) (t : TypeId) (cur : Array Value) (v : Value) (hy : a.eval y = v)
    (hi : (P.info? ty).map (·.size) = some v.cells.size) (hfit : v.cells.size = cur.size) (h1 : ∀ u ∈ v.cells.toList, u.oneCell' = true) :
    (execOp a.eval o).run P (w.alloc (.cells cur t)) = .ok .skip (w.alloc (.cells v.cells t)) := by
  rw [exec_store_row ty x y ho w.heap.size 0 hx t cur v hy (heap_alloc_new w _) hi (by omega) h1]
  rw [splice_all cur v hfit, setRow_alloc]
theorem exec_load_row {o : Oper} {a : Act} {w : World} (ty : TypeId) (x : Operand) (ho : o.op = .load ty x)
    (g : Nat) (hx : a.eval x = .pointer (some ⟨g, 0, none⟩)) (t : TypeId) (cs : Array Value) (fr : Nat × Nat) (d : TypeDesc) (hg : w.heap[g]? = some (.cells cs t fr))
    (hu : P.underlying ty = some d) (hd : (match d with | .struct _ | .array _ _ => true | _ => false) = true) (hi : (P.info? ty).map (·.size) = some cs.size) :
    (execOp a.eval o).run P w = .ok (.value (.agg cs)) w := by
  unfold execOp
  simp only [ho, hx, Instr.loadAt, Instr.sureAddr, Sem.run_bind, Sem.run_pure, Result.andThen_ok, run_loadVar_row w g t ty cs fr d hg hu hd hi]
end rows

/-! Frames: which blocks may have changed. -/
structure Fr (S : Nat → Prop) (w w' : World) : Prop where
  os : w'.os = w.os
  tape : w'.tape = w.tape
  output : w'.output = w.output
  size : w.heap.size ≤ w'.heap.size
  block : ∀ k, k < w.heap.size → ¬ S k → w'.heap[k]? = w.heap[k]?
theorem Fr.refl (S : Nat → Prop) (w : World) : Fr S w w := ⟨rfl, rfl, rfl, Nat.le_refl _, fun _ _ _ => rfl⟩
theorem Fr.trans {S : Nat → Prop} {a b c : World} (h : Fr S a b) (k : Fr S b c) : Fr S a c :=
  ⟨k.os.trans h.os, k.tape.trans h.tape, k.output.trans h.output, Nat.le_trans h.size k.size, fun i hi hs => (k.block i (Nat.lt_of_lt_of_le hi h.size) hs).trans (h.block i hi hs)⟩
theorem Fr.mono {S T : Nat → Prop} {a b : World} (h : Fr S a b) (hs : ∀ k, k < a.heap.size → S k → T k) : Fr T a b :=
  ⟨h.os, h.tape, h.output, h.size, fun k hk hn => h.block k hk (fun h' => hn (hs k hk h'))⟩
theorem Fr.of_below {B : Nat} {a b : World} (h : Below B a b) : Fr (fun k => B ≤ k) a b := ⟨h.os, h.tape, h.output, h.size, fun k _ hn => h.block k (by omega)⟩
theorem Fr.below {S : Nat → Prop} {B : Nat} {a b : World} (h : Fr S a b) (hB : B ≤ a.heap.size) (hs : ∀ k, k < B → ¬ S k) : Below B a b :=
  ⟨h.os, h.tape, h.output, h.size, fun k hk => h.block k (by omega) (hs k hk)⟩
theorem Fr.of_grownBy {row : Option Nat} {a b : World} (h : a.grownBy b row) : Fr (fun k => row = some k) a b := ⟨h.os, h.tape, h.output, h.size, fun k hk hn => h.block k hk (fun e => hn e.symm)⟩
theorem Fr.alloc (S : Nat → Prop) (w : World) (o : Obj) : Fr S w (w.alloc o) := ⟨rfl, rfl, rfl, by simp, fun k hk _ => Below.heap_alloc w o k hk⟩
theorem Fr.drewN (S : Nat → Prop) (w : World) (n : Nat) : Fr S w (w.drewN n) := ⟨rfl, rfl, rfl, Nat.le_refl _, fun _ _ _ => rfl⟩
theorem Fr.drew (S : Nat → Prop) (w : World) : Fr S w w.drew := ⟨rfl, rfl, rfl, Nat.le_refl _, fun _ _ _ => rfl⟩
theorem Fr.setCell {S : Nat → Prop} (w : World) (p : Addr) (u : Value) (h : S p.block) : Fr S w (w.setCell p u) :=
  ⟨rfl, rfl, rfl, by simp [World.setCell], fun k _ hn => Below.heap_setCell _ _ _ _ (fun e => hn (by rw [e]; exact h))⟩
theorem Fr.setRow {S : Nat → Prop} (w : World) (g : Nat) (cs : Array Value) (h : S g) : Fr S w (w.setRow g cs) :=
  ⟨rfl, rfl, rfl, by simp, fun k _ hn => setRow_other w g k cs (fun e => hn (by rw [e]; exact h))⟩
theorem Fr.cell {S : Nat → Prop} {a b : World} (h : Fr S a b) {p : Addr} (hp : p.block < a.heap.size) (hs : ¬ S p.block) : b.cell? p = a.cell? p := World.cell?_of_block (h.block _ hp hs)

theorem below_then {w a b : World} (h : Below w.heap.size w a) (k : Below a.heap.size a b) : Below w.heap.size w b := h.trans (k.mono h.size)
theorem below_drewN (w : World) (n : Nat) : Below w.heap.size w (w.drewN n) := ⟨rfl, rfl, rfl, Nat.le_refl _, fun _ _ => rfl⟩
theorem below_alloc (w : World) (o : Obj) : Below w.heap.size w (w.alloc o) := (Below.refl _ _).alloc (Nat.le_refl _) _
theorem below_refl (w : World) : Below w.heap.size w w := Below.refl _ _
/-- A slice of ints that came in: it can be read as the list zs of its elements, each of which fits its kind. -/
def IntsIn (k : IntKind) (w : World) (v : Value) (zs : List Int) : Prop := Vw w v (zs.map (Value.int k)) ∧ zs.length ≤ 9223372036854775807 ∧ ∀ n ∈ zs, (Lit.int k n).wf = true
theorem IntsIn.nil (k : IntKind) (w : World) : IntsIn k w (.slice none 0 0) [] := ⟨Vw.nil _ _ _, by simp, by simp⟩
theorem IntsIn.of_cells {k : IntKind} {w : World} {x : Addr} {l c : Nat} {zs : List Int} (hl : l ≤ c) (hm : c ≤ maxLen) (hz : zs.length = c) (hcell : ∀ i, i < zs.length → w.cell? (x.add i) = some (.int k (zs.getD i 0))) (hwz : ∀ n ∈ zs, (Lit.int k n).wf = true) :
    IntsIn k w (.slice (some x) l c) (zs.take l) := by
  have hlen : (zs.take l).length = l := by simp; omega
  refine ⟨⟨some x, c, by rw [List.length_map, hlen], fun i hi => ?_⟩, by rw [hlen]; unfold maxLen at hm; omega, fun n hn => hwz n (List.mem_of_mem_take hn)⟩
  rw [List.length_map, hlen] at hi
  have hc := hcell i (by omega)
  cases x with
  | mk b off spot =>
    cases spot with
    | none =>
      refine ⟨b, off, rfl, ?_⟩
      rw [show (⟨b, off, none⟩ : Addr).add i = ⟨b, off + i, none⟩ from Addr.add_lit _ _ _] at hc
      rw [hc]
      simp [List.getD, show i < zs.length by omega]
    | some s =>
      exfalso
      have h0 := hcell 0 (by omega)
      rw [show (⟨b, off, some s⟩ : Addr).add 0 = ⟨b, off, some s⟩ from rfl] at h0
      unfold World.cell? at h0
      simp at h0
      split at h0 <;> simp at h0

/-! Rows that the call owns: one cell an element. -/
def OwnL (w : World) (base : Nat) (e : TypeId) (v : Value) (xs : List Value) : Prop := w.ownsRow base e 1 v xs.length xs
theorem OwnL.nil (w : World) (base : Nat) (e : TypeId) : OwnL w base e (.slice none 0 0) [] := World.ownsRow_nil w base e 1
theorem OwnL.fr {S : Nat → Prop} {w w' : World} {base : Nat} {e : TypeId} {v : Value} {xs : List Value} (h : OwnL w base e v xs) (hf : Fr S w w') (hs : ∀ g, v.ownBlock = some g → ¬ S g) : OwnL w' base e v xs := by
  refine ⟨h.1, ?_⟩
  rcases h.2 with hn | ⟨g, cap, cur, rfl, hb, hg, r⟩
  · exact .inl hn
  · exact .inr ⟨g, cap, cur, rfl, hb, by rw [hf.block g (Array.getElem?_eq_some_iff.1 hg).1 (hs g rfl)]; exact hg, r⟩
theorem OwnL.alloc {w : World} {base : Nat} {e : TypeId} {v : Value} {xs : List Value} (h : OwnL w base e v xs) (o : Obj) : OwnL (w.alloc o) base e v xs := World.ownsRow.alloc h o
theorem OwnL.base_mono {w : World} {base base' : Nat} {e : TypeId} {v : Value} {xs : List Value} (h : OwnL w base e v xs) (hb : base' ≤ base) : OwnL w base' e v xs := by
  refine ⟨h.1, ?_⟩
  rcases h.2 with hn | ⟨g, cap, cur, rfl, hb', r⟩
  · exact .inl hn
  · exact .inr ⟨g, cap, cur, rfl, by omega, r⟩
theorem OwnL.block {w : World} {base : Nat} {e : TypeId} {v : Value} {xs : List Value} (h : OwnL w base e v xs) {g : Nat} (hg : v.ownBlock = some g) : base ≤ g ∧ g < w.heap.size := World.ownsRow.lt h g hg
theorem OwnL.vw {w : World} {base : Nat} {e : TypeId} {v : Value} {xs : List Value} (h : OwnL w base e v xs) : Vw w v xs := by
  rcases h.2 with ⟨rfl, hn⟩ | ⟨g, cap, cur, rfl, hb, hg, hc, hm, hcs, ht⟩
  · have : xs = [] := List.eq_nil_of_length_eq_zero hn
    subst this
    exact Vw.nil _ _ _
  · refine ⟨_, _, rfl, fun i hi => ⟨g, 0, rfl, ?_⟩⟩
    rw [cell_of_row w g (0 + i) cur e (0, 0) hg, Nat.zero_add]
    simp only [Nat.mul_one] at ht hcs
    have h5 := congrArg (fun l => l[i]?) ht
    simp only [List.getElem?_take, if_pos hi, List.getElem?_eq_getElem hi] at h5
    simpa using h5
theorem OwnL.at {w : World} {base : Nat} {e : TypeId} {g n cap : Nat} {xs : List Value} (h : OwnL w base e (.slice (some ⟨g, 0, none⟩) n cap) xs) (i : Nat) (hi : i < xs.length) : w.cell? ⟨g, i, none⟩ = some xs[i] := by
  obtain ⟨a, c, e1, hc⟩ := h.vw
  simp only [Value.slice.injEq] at e1
  obtain ⟨rfl, _, _⟩ := e1
  obtain ⟨b, off, e2, hb⟩ := hc i hi
  simp only [Option.some.injEq, Addr.mk.injEq, and_true] at e2
  obtain ⟨rfl, rfl⟩ := e2
  simpa using hb
theorem OwnL.cap {w : World} {base : Nat} {e : TypeId} {g n cap : Nat} {xs : List Value} (h : OwnL w base e (.slice (some ⟨g, 0, none⟩) n cap) xs) : n ≤ cap ∧ cap ≤ 9223372036854775807 := by
  rcases h.2 with ⟨h1, _⟩ | ⟨g', cap', cur, h1, _, _, h2, h3, _⟩
  · simp at h1
  · simp only [Value.slice.injEq] at h1
    obtain ⟨_, rfl, rfl⟩ := h1
    exact ⟨h2, by unfold maxLen at h3; omega⟩
theorem OwnL.shape {w : World} {base : Nat} {e : TypeId} {v : Value} {xs : List Value} (h : OwnL w base e v xs) (n : Nat) (hn : xs.length = n) (h0 : n ≠ 0) : ∃ g cap, v = .slice (some ⟨g, 0, none⟩) n cap := by
  subst hn
  rcases h.2 with ⟨_, h1⟩ | ⟨g, cap, cur, rfl, _⟩
  · exact absurd h1 h0
  · exact ⟨g, cap, rfl⟩
theorem Vw.fr {S : Nat → Prop} {w w' : World} {v : Value} {vs : List Value} (h : Vw w v vs) (hf : Fr S w w') (hs : ∀ b off n c, v = .slice (some ⟨b, off, none⟩) n c → ¬ S b) : Vw w' v vs := by
  obtain ⟨a, c, rfl, h⟩ := h
  refine ⟨a, c, rfl, fun i hi => ?_⟩
  obtain ⟨b, off, rfl, hc⟩ := h i hi
  refine ⟨b, off, rfl, ?_⟩
  rw [hf.cell (World.block_lt_of_cell? w _ hc) (hs b off _ c rfl)]
  exact hc
theorem Vw.below {B : Nat} {w w' : World} {v : Value} {vs : List Value} (h : Vw w v vs) (hf : Below B w w') (hB : w.heap.size ≤ B) : Vw w' v vs := by
  obtain ⟨a, c, rfl, h⟩ := h
  refine ⟨a, c, rfl, fun i hi => ?_⟩
  obtain ⟨b, off, rfl, hc⟩ := h i hi
  refine ⟨b, off, rfl, ?_⟩
  rw [hf.cell (p := ⟨b, off + i, none⟩) (Nat.lt_of_lt_of_le (World.block_lt_of_cell? w _ hc) hB)]
  exact hc
theorem Vw.drewN {w : World} {v : Value} {vs : List Value} (h : Vw w v vs) (n : Nat) : Vw (w.drewN n) v vs := h.below (Below.mono ⟨rfl, rfl, rfl, Nat.le_refl _, fun _ _ => rfl⟩ (Nat.le_refl w.heap.size)) (Nat.le_refl _)
theorem ownsRow_shape {w : World} {base : Nat} {e : TypeId} {size : Nat} {v : Value} {n : Nat} {xs : List Value} (h : w.ownsRow base e size v n xs) (hn : n ≠ 0) : ∃ g cap, v = .slice (some ⟨g, 0, none⟩) n cap := by
  rcases h.2 with ⟨_, h0⟩ | ⟨g, cap, cur, rfl, _⟩
  · exact absurd h0 hn
  · exact ⟨g, cap, rfl⟩

theorem Vw.take {w : World} {b off n c : Nat} {vs : List Value} (h : Vw w (.slice (some ⟨b, off, none⟩) n c) vs) (m c' : Nat) (hm : m ≤ vs.length) : Vw w (.slice (some ⟨b, off, none⟩) m c') (vs.take m) := by
  obtain ⟨a, c0, e1, hc⟩ := h
  simp only [Value.slice.injEq] at e1
  obtain ⟨rfl, _, _⟩ := e1
  have hl : (vs.take m).length = m := by simp; omega
  refine ⟨_, c', by rw [hl], fun i hi => ?_⟩
  rw [hl] at hi
  obtain ⟨b', off', e2, hb⟩ := hc i (by omega)
  exact ⟨b', off', e2, by simpa using hb⟩
theorem Vw.lit (w : World) (cs : Array Value) (e : TypeId) (n : Nat) (h : cs.size = n) : Vw (w.alloc (.cells cs e)) (.slice (some ⟨w.heap.size, 0, none⟩) n n) cs.toList := by
  subst h
  refine ⟨_, _, by rw [Array.length_toList], fun i hi => ⟨w.heap.size, 0, rfl, ?_⟩⟩
  rw [Nat.zero_add, cell_of_row _ _ _ _ _ _ (heap_alloc_new w _), Array.getElem?_eq_getElem (by simpa using hi)]
  simp
/-- What an append of one element asks: the element type's row of the table. -/
structure Elem1 (P : Program) (t e : TypeId) (bytes : Nat) (z : Value) : Prop where
  slice : P.underlying t = some (.slice e)
  info : ∃ i, P.info? e = some i ∧ i.zero = some z ∧ i.size = 1 ∧ i.bytes = bytes
  one : z.cells = #[z]
theorem Elem1.mk' {P : Program} {t e : TypeId} {bytes : Nat} {z : Value} (h : P.underlying t = some (.slice e)) (hi : (P.info? e).map (fun i => (i.zero, i.size, i.bytes)) = some (some z, 1, bytes)) (hz : z.cells = #[z]) : Elem1 P t e bytes z := by
  obtain ⟨i, h1, h2, h3, h4⟩ := info_parts hi
  exact ⟨h, ⟨i, h1, h2, h3, h4⟩, hz⟩
theorem OwnL.stored {w : World} {base : Nat} {e : TypeId} {g n cap : Nat} {xs : List Value} (h : OwnL w base e (.slice (some ⟨g, 0, none⟩) n cap) xs) (j : Nat) (u : Value) :
    OwnL (w.setCell ⟨g, j, none⟩ u) base e (.slice (some ⟨g, 0, none⟩) n cap) (xs.set j u) := by
  have hn : n = xs.length := by
    rcases h.2 with ⟨h1, _⟩ | ⟨g', cap', cur, h1, _⟩
    · simp at h1
    · simp at h1; exact h1.2.1
  subst hn
  have := (World.ownsRow.stored h j u).1
  unfold OwnL
  rwa [List.length_set]
theorem OwnL.free {w : World} {base : Nat} {e : TypeId} {g n cap : Nat} {xs : List Value} (h : OwnL w base e (.slice (some ⟨g, 0, none⟩) n cap) xs) (j : Nat) : w.frozen? ⟨g, j, none⟩ = false := by
  have hn : n = xs.length := by
    rcases h.2 with ⟨h1, _⟩ | ⟨g', cap', cur, h1, _⟩
    · simp at h1
    · simp at h1; exact h1.2.1
  subst hn
  exact World.ownsRow.frozenAt h j

section app
variable {P : Program}
theorem exec_append_one {o : Oper} {a : Act} {w : World} {t e : TypeId} {bytes : Nat} {z : Value} (E : Elem1 P t e bytes z) (s x : Operand)
    (ho : o.op = .call { callee := .builtin .append, args := #[s, x], argTypes := #[t, t] })
    (base : Nat) (v : Value) (xs : List Value) (hs : a.eval s = v) (hown : OwnL w base e v xs) (u : Value) (hu : u.oneCell' = true)
    (hx : a.eval x = .slice (some ⟨w.heap.size, 0, none⟩) 1 1) (hlen : (xs.length + 1) * bytes ≤ 140737488355328) (hmax : xs.length + 1 ≤ 9223372036854775807) (hbase : base ≤ w.heap.size) :
    ∃ g cap w', (execOp a.eval o).run P (w.alloc (.cells #[u] e)) = .ok (.value (.slice (some ⟨g, 0, none⟩) (xs.length + 1) cap)) w' ∧
      OwnL w' base e (.slice (some ⟨g, 0, none⟩) (xs.length + 1) cap) (xs ++ [u]) ∧ Fr (fun k => v.ownBlock = some k) w w' := by
  obtain ⟨i, hi, hz, hsz, hby⟩ := E.info
  have hzs : z.cells.size = 1 := by rw [E.one]; rfl
  obtain ⟨v', w', hr, h2, h3, h4⟩ := run_append_own (P := P) (w.alloc (.cells #[u] e)) base t o.type e i z 1 bytes E.slice hi hz hsz hby hzs (by decide) v xs.length xs (World.ownsRow.alloc hown _)
    ⟨w.heap.size, 0, none⟩ 1 1 [u] rfl (cell_one_new w u e) (by intro y hy; simp at hy; subst hy; exact hu) (by unfold maxLen; omega) hlen (by simp; omega)
  obtain ⟨g, cap, rfl⟩ := ownsRow_shape h2 (by omega)
  refine ⟨g, cap, w', ?_, ?_, (Fr.alloc _ w _).trans (Fr.of_grownBy h3)⟩
  · unfold execOp
    simp only [ho, resolve, invoke, builtin, Sem.run_bind, Sem.run_pure, Result.andThen_ok, List.map_toArray, List.map_cons, List.map_nil, hs, hx, hr]
  · unfold OwnL
    simpa using h2
theorem wpList_append_one {ops : Array Oper} {rest : List Oper} {o : Oper} {a : Act} {w : World} {Q : Exit → Act → World → Prop} (hgd : o.guard = none) {t e : TypeId} {bytes : Nat} {z : Value} (E : Elem1 P t e bytes z) (s x : Operand)
    (ho : o.op = .call { callee := .builtin .append, args := #[s, x], argTypes := #[t, t] })
    (base : Nat) (v : Value) (n : Nat) (xs : List Value) (hn : xs.length = n) (hs : a.eval s = v) (hown : OwnL w base e v xs) (u : Value) (hu : u.oneCell' = true)
    (hx : a.eval x = .slice (some ⟨w.heap.size, 0, none⟩) 1 1) (hlen : (n + 1) * bytes ≤ 140737488355328) (hmax : n + 1 ≤ 9223372036854775807) (hbase : base ≤ w.heap.size)
    (h : ∀ g cap w', OwnL w' base e (.slice (some ⟨g, 0, none⟩) (n + 1) cap) (xs ++ [u]) → Fr (fun k => v.ownBlock = some k) w w' → wpList P ops Q rest (a.put o.dst (.slice (some ⟨g, 0, none⟩) (n + 1) cap)) w') :
    wpList P ops Q (o :: rest) a (w.alloc (.cells #[u] e)) := by
  subst hn
  obtain ⟨g, cap, w', hr, h1, h2⟩ := exec_append_one E s x ho base v xs hs hown u hu hx hlen hmax hbase
  exact wpList_run_value hgd hr (h g cap w' h1 h2)
theorem exec_make_one {o : Oper} {a : Act} {w : World} {t e : TypeId} {bytes : Nat} {z : Value} (E : Elem1 P t e bytes z) (l c : Operand) (hop : o.op = Op.makeSlice t l c)
    (kl kc : IntKind) (L C : Int) (n m : Nat) (hl : a.eval l = .int kl L) (hc : a.eval c = .int kc C) (hL : L = n) (hC : C = m) (hnm : n ≤ m) (hb : bytes * m ≤ 281474976710656) (hm : m ≤ 9223372036854775807) :
    (execOp a.eval o).run P w = .ok (.value (.slice (some ⟨w.heap.size, 0, none⟩) n m)) (w.alloc (.cells (Array.replicate m z) e)) := by
  subst hL hC
  obtain ⟨i, hi, hz, hsz, hby⟩ := E.info
  have hr := run_make (P := P) w t e i z E.slice hi hz kl kc n m (by omega) (by omega) (by rw [hby]; omega) (by omega)
  simp only [Int.toNat_natCast, hsz, Nat.mul_one] at hr
  rw [show madeCells z.cells m = Array.replicate m z from by rw [E.one]; apply Array.toList_inj.1; rw [toList_madeCells_one z m]; simp] at hr
  unfold execOp
  simp only [hop, hl, hc, Sem.run_bind, hr, Result.andThen_ok, Sem.run_pure]
theorem OwnL.zeros (w : World) (base : Nat) (e : TypeId) (m : Nat) (z : Value) (hb : base ≤ w.heap.size) (hm : m ≤ 9223372036854775807) :
    OwnL (w.alloc (.cells (Array.replicate m z) e)) base e (.slice (some ⟨w.heap.size, 0, none⟩) m m) (List.replicate m z) := by
  have := World.ownsRow_lit (base := base) (e := e) (size := 1) w (Array.replicate m z) m hb (by unfold maxLen; omega) (by simp)
  simpa [OwnL] using this
theorem OwnL.made (w : World) (base : Nat) (e : TypeId) (xs : List Value) (hb : base ≤ w.heap.size) (hm : xs.length ≤ 9223372036854775807) :
    OwnL (w.alloc (.cells xs.toArray e)) base e (.slice (some ⟨w.heap.size, 0, none⟩) xs.length xs.length) xs := by
  have := World.ownsRow_lit (base := base) (e := e) (size := 1) w xs.toArray xs.length hb (by unfold maxLen; omega) (by simp)
  simpa [OwnL] using this
end app

theorem ret_bool {a b : Bool} (h : a = b) : Ending.returned (.bool a) = .returned (.bool b) := by rw [h]
theorem ret_int {k : IntKind} {a b : Int} (h : a = b) : Ending.returned (.int k a) = .returned (.int k b) := by rw [h]
theorem take_eq_succ {α : Type} {l m : List α} {k : Nat} (hk : k < l.length) (hk' : k < m.length) (h : l.take k = m.take k) (he : l[k] = m[k]) : l.take (k + 1) = m.take (k + 1) := by
  rw [List.take_succ_eq_append_getElem hk, List.take_succ_eq_append_getElem hk', h, he]
theorem hid {p : Prop} (h : p) : Hid p := h

end Go.Proofs.Ytighnjbcnfnpmaa

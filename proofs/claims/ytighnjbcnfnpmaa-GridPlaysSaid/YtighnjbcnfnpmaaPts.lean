/- Slices of points (two cells an element): reading, owning, appending. -/
import Derived.Test.YtighnjbcnfnpmaaApp
import Derived.Test.YtighnjbcnfnpmaaVwB
namespace Go.Proofs.Ytighnjbcnfnpmaa
open Go.RowKit
set_option linter.unusedVariables false
abbrev Pt := Int × Int
abbrev ptV (p : Pt) : Value := .agg #[.int .i64 p.1, .int .i64 p.2]
/-- The cells of points. -/
def fl : List Pt → List Value
  | [] => []
  | p :: l => .int .i64 p.1 :: .int .i64 p.2 :: fl l
theorem fl_len : ∀ l : List Pt, (fl l).length = l.length * 2
  | [] => rfl
  | p :: l => by simp [fl, fl_len l]; omega
theorem fl_append : ∀ a b : List Pt, fl (a ++ b) = fl a ++ fl b
  | [], b => rfl
  | p :: l, b => by simp [fl, fl_append l b]
theorem fl_one : ∀ (l : List Pt), ∀ u ∈ fl l, u.oneCell' = true
  | [], u, h => by simp [fl] at h
  | p :: l, u, h => by
    simp only [fl, List.mem_cons] at h
    rcases h with rfl | rfl | h
    · rfl
    · rfl
    · exact fl_one l u h
theorem fl_get0 : ∀ (l : List Pt) (i : Nat) (h : i < l.length), (fl l)[i * 2]? = some (.int .i64 l[i].1)
  | p :: l, 0, _ => rfl
  | p :: l, i + 1, h => by
    rw [show (i + 1) * 2 = i * 2 + 1 + 1 by omega]
    simp only [fl, List.getElem?_cons_succ, List.getElem_cons_succ]
    exact fl_get0 l i (by simpa using h)
theorem fl_get1 : ∀ (l : List Pt) (i : Nat) (h : i < l.length), (fl l)[i * 2 + 1]? = some (.int .i64 l[i].2)
  | p :: l, 0, _ => rfl
  | p :: l, i + 1, h => by
    rw [show (i + 1) * 2 + 1 = i * 2 + 1 + 1 + 1 by omega]
    simp only [fl, List.getElem?_cons_succ, List.getElem_cons_succ]
    exact fl_get1 l i (by simpa using h)
theorem fl_set : ∀ (l : List Pt) (i : Nat) (x y : Int), ((fl l).set (i * 2) (.int .i64 x)).set (i * 2 + 1) (.int .i64 y) = fl (l.set i (x, y))
  | [], i, x, y => rfl
  | p :: l, 0, x, y => rfl
  | p :: l, i + 1, x, y => by
    rw [show (i + 1) * 2 = i * 2 + 1 + 1 by omega]
    simp only [fl, List.set_cons_succ]
    rw [fl_set l i x y]
theorem fl_replicate : ∀ n : Nat, fl (List.replicate n (0, 0)) = List.replicate (n * 2) (.int .i64 0)
  | 0 => rfl
  | n + 1 => by rw [List.replicate_succ, fl, fl_replicate n, show (n + 1) * 2 = n * 2 + 1 + 1 by omega]; rfl
theorem fl_take : ∀ (l : List Pt) (n : Nat), fl (l.take n) = (fl l).take (n * 2)
  | [], n => by simp [fl]
  | p :: l, 0 => by simp [fl]
  | p :: l, n + 1 => by
    rw [show (n + 1) * 2 = n * 2 + 1 + 1 by omega]
    simp only [List.take_succ_cons, fl]
    rw [fl_take l n]
/-- The slice value v reads as the points ps. -/
def PVw (w : World) (v : Value) (ps : List Pt) : Prop :=
  ∃ a c, v = .slice a ps.length c ∧ ∀ i (h : i < ps.length), ∃ b off, a = some ⟨b, off, none⟩ ∧ w.cell? ⟨b, off + i * 2, none⟩ = some (.int .i64 ps[i].1) ∧ w.cell? ⟨b, off + i * 2 + 1, none⟩ = some (.int .i64 ps[i].2)
theorem PVw.nil (w : World) (a : Option Addr) (c : Nat) : PVw w (.slice a 0 c) [] := ⟨a, c, rfl, fun _ h => by simp at h⟩
theorem PVw.fr {S : Nat → Prop} {w w' : World} {v : Value} {vs : List Pt} (h : PVw w v vs) (hf : Fr S w w') (hs : ∀ b off n c, v = .slice (some ⟨b, off, none⟩) n c → ¬ S b) : PVw w' v vs := by
  obtain ⟨a, c, rfl, h⟩ := h
  refine ⟨a, c, rfl, fun i hi => ?_⟩
  obtain ⟨b, off, rfl, hc, hd⟩ := h i hi
  exact ⟨b, off, rfl, (hf.cell (World.block_lt_of_cell? w _ hc) (hs b off _ c rfl)).trans hc, (hf.cell (World.block_lt_of_cell? w _ hd) (hs b off _ c rfl)).trans hd⟩
theorem PVw.below {B : Nat} {w w' : World} {v : Value} {vs : List Pt} (h : PVw w v vs) (hf : Below B w w') (hB : w.heap.size ≤ B) : PVw w' v vs := by
  obtain ⟨a, c, rfl, h⟩ := h
  refine ⟨a, c, rfl, fun i hi => ?_⟩
  obtain ⟨b, off, rfl, hc, hd⟩ := h i hi
  exact ⟨b, off, rfl, (hf.cell (p := ⟨b, off + i * 2, none⟩) (Nat.lt_of_lt_of_le (World.block_lt_of_cell? w _ hc) hB)).trans hc, (hf.cell (p := ⟨b, off + i * 2 + 1, none⟩) (Nat.lt_of_lt_of_le (World.block_lt_of_cell? w _ hd) hB)).trans hd⟩
theorem PVw.take {w : World} {a : Option Addr} {n c : Nat} {vs : List Pt} (h : PVw w (.slice a n c) vs) (m c' : Nat) (hm : m ≤ vs.length) : PVw w (.slice a m c') (vs.take m) := by
  obtain ⟨a', c0, e1, hc⟩ := h
  simp only [Value.slice.injEq] at e1
  obtain ⟨rfl, _, _⟩ := e1
  have hl : (vs.take m).length = m := by simp; omega
  refine ⟨_, c', by rw [hl], fun i hi => ?_⟩
  rw [hl] at hi
  obtain ⟨b', off', e2, hb, hd⟩ := hc i (by omega)
  exact ⟨b', off', e2, by simpa using hb, by simpa using hd⟩
theorem PVw.at {w : World} {a : Option Addr} {n c : Nat} {vs : List Pt} (h : PVw w (.slice a n c) vs) {i : Nat} (hi : i < vs.length) : ∃ b off, a = some ⟨b, off, none⟩ ∧ w.cell? ⟨b, off + i * 2, none⟩ = some (.int .i64 (vs.getD i (0, 0)).1) ∧ w.cell? ⟨b, off + i * 2 + 1, none⟩ = some (.int .i64 (vs.getD i (0, 0)).2) := by
  obtain ⟨a', c', e, h⟩ := h
  simp only [Value.slice.injEq] at e
  obtain ⟨rfl, _, _⟩ := e
  obtain ⟨b, off, h1, h2, h3⟩ := h i hi
  have : vs.getD i (0, 0) = vs[i] := by simp [List.getD, hi]
  rw [this]
  exact ⟨b, off, h1, h2, h3⟩
/-- A row of points of the call's own. -/
def POwn (w : World) (base : Nat) (e : TypeId) (v : Value) (ps : List Pt) : Prop := w.ownsRow base e 2 v ps.length (fl ps)
theorem POwn.nil (w : World) (base : Nat) (e : TypeId) : POwn w base e (.slice none 0 0) [] := World.ownsRow_nil w base e 2
theorem POwn.fr {S : Nat → Prop} {w w' : World} {base : Nat} {e : TypeId} {v : Value} {xs : List Pt} (h : POwn w base e v xs) (hf : Fr S w w') (hs : ∀ g, v.ownBlock = some g → ¬ S g) : POwn w' base e v xs := by
  refine ⟨h.1, ?_⟩
  rcases h.2 with hn | ⟨g, cap, cur, rfl, hb, hg, r⟩
  · exact .inl hn
  · exact .inr ⟨g, cap, cur, rfl, hb, by rw [hf.block g (Array.getElem?_eq_some_iff.1 hg).1 (hs g rfl)]; exact hg, r⟩
theorem POwn.base_mono {w : World} {base base' : Nat} {e : TypeId} {v : Value} {xs : List Pt} (h : POwn w base e v xs) (hb : base' ≤ base) : POwn w base' e v xs := by
  refine ⟨h.1, ?_⟩
  rcases h.2 with hn | ⟨g, cap, cur, rfl, hb', r⟩
  · exact .inl hn
  · exact .inr ⟨g, cap, cur, rfl, by omega, r⟩
theorem POwn.block {w : World} {base : Nat} {e : TypeId} {v : Value} {xs : List Pt} (h : POwn w base e v xs) {g : Nat} (hg : v.ownBlock = some g) : base ≤ g ∧ g < w.heap.size := World.ownsRow.lt h g hg
theorem POwn.below {B : Nat} {w w' : World} {base : Nat} {e : TypeId} {v : Value} {xs : List Pt} (h : POwn w base e v xs) (hb : Below B w w') (hB : w.heap.size ≤ B) : POwn w' base e v xs :=
  h.fr (Fr.of_below hb) (fun g e => by have := (h.block e).2; omega)
theorem POwn.vw {w : World} {base : Nat} {e : TypeId} {v : Value} {xs : List Pt} (h : POwn w base e v xs) : PVw w v xs := by
  rcases h.2 with ⟨rfl, hn⟩ | ⟨g, cap, cur, rfl, hb, hg, hc, hm, hcs, ht⟩
  · have : xs = [] := List.eq_nil_of_length_eq_zero hn
    subst this
    exact PVw.nil _ _ _
  · refine ⟨_, _, rfl, fun i hi => ⟨g, 0, rfl, ?_⟩⟩
    rw [cell_of_row w g (0 + i * 2) cur e (0, 0) hg, cell_of_row w g (0 + i * 2 + 1) cur e (0, 0) hg, Nat.zero_add]
    have h0 := fl_get0 xs i hi
    have h1 := fl_get1 xs i hi
    rw [← ht, List.getElem?_take, if_pos (by omega), Array.getElem?_toList] at h0
    rw [← ht, List.getElem?_take, if_pos (by omega), Array.getElem?_toList] at h1
    exact ⟨h0, h1⟩
theorem POwn.shape {w : World} {base : Nat} {e : TypeId} {v : Value} {xs : List Pt} (h : POwn w base e v xs) (n : Nat) (hn : xs.length = n) (h0 : n ≠ 0) : ∃ g cap, v = .slice (some ⟨g, 0, none⟩) n cap := by
  subst hn
  rcases h.2 with ⟨_, h1⟩ | ⟨g, cap, cur, rfl, _⟩
  · exact absurd h1 h0
  · exact ⟨g, cap, rfl⟩
theorem POwn.is_slice {w : World} {base : Nat} {e : TypeId} {v : Value} {xs : List Pt} (h : POwn w base e v xs) : ∃ a c, v = .slice a xs.length c := by
  obtain ⟨a, c, rfl, _⟩ := h.vw
  exact ⟨a, c, rfl⟩
theorem POwn.len {w : World} {base : Nat} {e : TypeId} {a : Option Addr} {n cap : Nat} {xs : List Pt} (h : POwn w base e (.slice a n cap) xs) : n = xs.length := by
  obtain ⟨a', c, e, _⟩ := h.vw
  simp only [Value.slice.injEq] at e
  exact e.2.1
theorem POwn.free {w : World} {base : Nat} {e : TypeId} {g n cap : Nat} {xs : List Pt} (h : POwn w base e (.slice (some ⟨g, 0, none⟩) n cap) xs) (j : Nat) : w.frozen? ⟨g, j, none⟩ = false := by
  obtain rfl := h.len
  exact World.ownsRow.frozenAt h j
theorem POwn.stored {w : World} {base : Nat} {e : TypeId} {g n cap : Nat} {xs : List Pt} (h : POwn w base e (.slice (some ⟨g, 0, none⟩) n cap) xs) (i : Nat) (x y : Int) :
    POwn ((w.setCell ⟨g, i * 2, none⟩ (.int .i64 x)).setCell ⟨g, i * 2 + 1, none⟩ (.int .i64 y)) base e (.slice (some ⟨g, 0, none⟩) n cap) (xs.set i (x, y)) := by
  obtain rfl := h.len
  have h1 := (World.ownsRow.stored (World.ownsRow.stored h (i * 2) (.int .i64 x)).1 (i * 2 + 1) (.int .i64 y)).1
  unfold POwn
  rwa [List.length_set, ← fl_set]
theorem POwn.cells {w : World} {base : Nat} {e : TypeId} {g n cap : Nat} {xs : List Pt} (h : POwn w base e (.slice (some ⟨g, 0, none⟩) n cap) xs) {i : Nat} (hi : i < xs.length) :
    w.cell? ⟨g, i * 2, none⟩ = some (.int .i64 (xs.getD i (0, 0)).1) ∧ w.cell? ⟨g, i * 2 + 1, none⟩ = some (.int .i64 (xs.getD i (0, 0)).2) := by
  obtain ⟨b, off, h1, h2, h3⟩ := h.vw.at hi
  simp only [Option.some.injEq, Addr.mk.injEq, and_true] at h1
  obtain ⟨rfl, rfl⟩ := h1
  rw [Nat.zero_add] at h2 h3
  exact ⟨h2, h3⟩
theorem POwn.rebase {w : World} {base g n cap : Nat} {e : TypeId} {v : Value} {xs : List Pt} (h : POwn w base e v xs) (hv : v = .slice (some ⟨g, 0, none⟩) n cap) : POwn w g e v xs := by
  refine ⟨h.1, ?_⟩
  rcases h.2 with hn | ⟨g', cap', cur, e1, hb, r⟩
  · exact .inl hn
  · refine .inr ⟨g', cap', cur, e1, ?_, r⟩
    rw [hv] at e1
    simp at e1
    omega
structure Elem2 (P : Program) (t e : TypeId) : Prop where
  slice : P.underlying t = some (.slice e)
  info : ∃ i, P.info? e = some i ∧ i.zero = some (.agg #[.int .i64 0, .int .i64 0]) ∧ i.size = 2 ∧ i.bytes = 16
theorem Elem2.mk' {P : Program} {t e : TypeId} (h : P.underlying t = some (.slice e)) (hi : (P.info? e).map (fun i => (i.zero, i.size, i.bytes)) = some (some (.agg #[.int .i64 0, .int .i64 0]), 2, 16)) : Elem2 P t e := by
  obtain ⟨i, h1, h2, h3, h4⟩ := info_parts hi
  exact ⟨h, ⟨i, h1, h2, h3, h4⟩⟩
section app
variable {P : Program}
theorem exec_append_list2 {o : Oper} {a : Act} {w : World} {t e : TypeId} (E : Elem2 P t e) (s x : Operand)
    (ho : o.op = .call { callee := .builtin .append, args := #[s, x], argTypes := #[t, t] })
    (base : Nat) (v : Value) (xs : List Pt) (hs : a.eval s = v) (hown : POwn w base e v xs) (vx : Value) (ys : List Pt) (hx : a.eval x = vx) (hy : PVw w vx ys)
    (hlen : (xs.length + ys.length) * 16 ≤ 140737488355328) (hbase : base ≤ w.heap.size) :
    ∃ v' w', (execOp a.eval o).run P w = .ok (.value v') w' ∧ POwn w' base e v' (xs ++ ys) ∧ Fr (fun k => v.ownBlock = some k) w w' := by
  obtain ⟨i, hi, hz, hsz, hby⟩ := E.info
  obtain ⟨ad, c, rfl, hcell⟩ := hy
  cases ad with
  | none =>
    have hy0 : ys = [] := by
      cases ys with
      | nil => rfl
      | cons u l => obtain ⟨b, off, h, _⟩ := hcell 0 (by simp); cases h
    subst hy0
    have hr := run_append_none0 (P := P) base t o.type e i 2 c E.slice hi v xs.length (fl xs) hown
    refine ⟨v, w, ?_, by simpa using hown, Fr.refl _ _⟩
    unfold execOp
    simp only [ho, resolve, invoke, builtin, Sem.run_bind, Sem.run_pure, Result.andThen_ok, List.map_toArray, List.map_cons, List.map_nil, hs, hx, List.length_nil, hr]
  | some ad =>
    obtain ⟨v', w', hr, h2, h3, h4⟩ := run_append_own (P := P) w base t o.type e i _ 2 16 E.slice hi hz hsz hby rfl (by decide) v xs.length (fl xs) hown
      ad ys.length c (fl ys) (fl_len ys) (by
        intro j u hj
        obtain ⟨hj1, hj2⟩ := List.getElem?_eq_some_iff.1 hj
        rw [fl_len] at hj1
        obtain ⟨b, off, h, hc, hd⟩ := hcell (j / 2) (by omega)
        cases h
        have e : (⟨b, off, none⟩ : Addr).add j = ⟨b, off + j, none⟩ := by
          unfold Addr.add
          by_cases hj0 : j = 0
          · subst hj0; simp
          · simp [hj0]
        rw [e]
        have g0 := fl_get0 ys (j / 2) (by omega)
        have g1 := fl_get1 ys (j / 2) (by omega)
        by_cases hp : j % 2 = 0
        · rw [show j / 2 * 2 = j by omega, hj] at g0
          rw [show off + j / 2 * 2 = off + j by omega] at hc
          rw [hc, g0]
        · rw [show j / 2 * 2 + 1 = j by omega, hj] at g1
          rw [show off + j / 2 * 2 + 1 = off + j by omega] at hd
          rw [hd, g1]) (fl_one ys) (by unfold maxLen; omega) hlen hbase
    refine ⟨v', w', ?_, ?_, Fr.of_grownBy h3⟩
    · unfold execOp
      simp only [ho, resolve, invoke, builtin, Sem.run_bind, Sem.run_pure, Result.andThen_ok, List.map_toArray, List.map_cons, List.map_nil, hs, hx, hr]
    · unfold POwn
      rw [List.length_append, fl_append]
      exact h2
theorem PVw.lit1 (w : World) (x y : Int) (e : TypeId) : PVw (w.alloc (.cells #[.int .i64 x, .int .i64 y] e)) (.slice (some ⟨w.heap.size, 0, none⟩) 1 1) [(x, y)] := by
  refine ⟨_, _, rfl, fun i hi => ⟨w.heap.size, 0, rfl, ?_⟩⟩
  obtain rfl : i = 0 := by simp at hi; omega
  rw [cell_of_row _ _ _ _ _ _ (heap_alloc_new w _), cell_of_row _ _ _ _ _ _ (heap_alloc_new w _)]
  exact ⟨rfl, rfl⟩
theorem POwn.alloc {w : World} {base : Nat} {e : TypeId} {v : Value} {xs : List Pt} (h : POwn w base e v xs) (o : Obj) : POwn (w.alloc o) base e v xs := World.ownsRow.alloc h o
theorem wpList_append_one2 {ops : Array Oper} {rest : List Oper} {o : Oper} {a : Act} {w : World} {Q : Exit → Act → World → Prop} (hgd : o.guard = none) {t e : TypeId} (E : Elem2 P t e) (s x : Operand)
    (ho : o.op = .call { callee := .builtin .append, args := #[s, x], argTypes := #[t, t] })
    (base : Nat) (v : Value) (n : Nat) (xs : List Pt) (hn : xs.length = n) (hs : a.eval s = v) (hown : POwn w base e v xs) (px py : Int)
    (hx : a.eval x = .slice (some ⟨w.heap.size, 0, none⟩) 1 1) (hlen : (n + 1) * 16 ≤ 140737488355328) (hbase : base ≤ w.heap.size)
    (h : ∀ g cap w', POwn w' base e (.slice (some ⟨g, 0, none⟩) (n + 1) cap) (xs ++ [(px, py)]) → Fr (fun k => v.ownBlock = some k) w w' → wpList P ops Q rest (a.put o.dst (.slice (some ⟨g, 0, none⟩) (n + 1) cap)) w') :
    wpList P ops Q (o :: rest) a (w.alloc (.cells #[.int .i64 px, .int .i64 py] e)) := by
  subst hn
  obtain ⟨v', w', hr, h1, h2⟩ := exec_append_list2 E s x ho base v xs hs (hown.alloc _) _ [(px, py)] hx (PVw.lit1 w px py e) (by simpa using hlen) (by simp; omega)
  obtain ⟨g, cap, rfl⟩ := h1.shape (xs.length + 1) (by simp) (by omega)
  exact wpList_run_value hgd hr (h g cap w' h1 ((Fr.alloc _ w _).trans h2))
theorem wpList_append_list2 {ops : Array Oper} {rest : List Oper} {o : Oper} {a : Act} {w : World} {Q : Exit → Act → World → Prop} (hgd : o.guard = none) {t e : TypeId} (E : Elem2 P t e) (s x : Operand)
    (ho : o.op = .call { callee := .builtin .append, args := #[s, x], argTypes := #[t, t] })
    (base : Nat) (v : Value) (xs : List Pt) (hs : a.eval s = v) (hown : POwn w base e v xs) (vx : Value) (ys : List Pt) (hx : a.eval x = vx) (hy : PVw w vx ys)
    (hlen : (xs.length + ys.length) * 16 ≤ 140737488355328) (hbase : base ≤ w.heap.size)
    (h : ∀ v' w', POwn w' base e v' (xs ++ ys) → Fr (fun k => v.ownBlock = some k) w w' → wpList P ops Q rest (a.put o.dst v') w') :
    wpList P ops Q (o :: rest) a w := by
  obtain ⟨v', w', hr, h1, h2⟩ := exec_append_list2 E s x ho base v xs hs hown vx ys hx hy hlen hbase
  exact wpList_run_value hgd hr (h v' w' h1 h2)
theorem POwn.made0 (w : World) (base : Nat) (e : TypeId) (hb : base ≤ w.heap.size) : POwn (w.alloc (.cells #[] e)) base e (.slice (some ⟨w.heap.size, 0, none⟩) 0 0) [] := by
  have := World.ownsRow_lit (base := base) (e := e) (size := 2) w #[] 0 hb (by unfold maxLen; omega) (by simp)
  simpa [POwn, fl] using this
theorem wpList_copy_list2 {ops : Array Oper} {rest : List Oper} {o : Oper} {a : Act} {w : World} {Q : Exit → Act → World → Prop} (hgd : o.guard = none) {t e : TypeId} (E : Elem2 P t e) (s x : Operand)
    (ho : o.op = .call { callee := .builtin .append, args := #[s, x], argTypes := #[t, t] })
    (hs : a.eval s = .slice (some ⟨w.heap.size, 0, none⟩) 0 0) (vx : Value) (ys : List Pt) (hx : a.eval x = vx) (hy : PVw w vx ys)
    (hlen : ys.length * 16 ≤ 140737488355328)
    (h : ∀ v' w', POwn w' w.heap.size e v' ys → Below w.heap.size w w' → wpList P ops Q rest (a.put o.dst v') w') :
    wpList P ops Q (o :: rest) a (w.alloc (.cells #[] e)) := by
  obtain ⟨v', w', hr, h2, h3⟩ := exec_append_list2 E s x ho w.heap.size _ [] hs (POwn.made0 w _ e (Nat.le_refl _)) vx ys hx (hy.below (below_alloc w _) (Nat.le_refl _)) (by simpa using hlen) (by simp)
  refine wpList_run_value hgd hr (h v' w' (by simpa using h2) ((below_alloc w _).trans (h3.below (by simp) (fun k hk e => ?_))))
  simp [Value.ownBlock] at e
  omega
theorem madeCells2 (n : Nat) : madeCells #[.int .i64 0, .int .i64 0] n = Array.replicate n (.int .i64 0) := by
  apply Array.ext_getElem?
  intro i
  simp only [madeCells, Array.getElem?_map]
  by_cases h : i < n
  · have : i % 2 = 0 ∨ i % 2 = 1 := by omega
    rcases this with h2 | h2 <;> simp [h, h2]
  · simp [h]
theorem exec_make_two {o : Oper} {a : Act} {w : World} {t e : TypeId} (E : Elem2 P t e) (l c : Operand) (hop : o.op = Op.makeSlice t l c)
    (kl kc : IntKind) (L C : Int) (n : Nat) (hl : a.eval l = .int kl L) (hc : a.eval c = .int kc C) (hL : L = n) (hC : C = n) (hb : 16 * n ≤ 281474976710656) :
    (execOp a.eval o).run P w = .ok (.value (.slice (some ⟨w.heap.size, 0, none⟩) n n)) (w.alloc (.cells (Array.replicate (n * 2) (.int .i64 0)) e)) := by
  subst hL hC
  obtain ⟨i, hi, hz, hsz, hby⟩ := E.info
  have hr := run_make (P := P) w t e i _ E.slice hi hz kl kc n n (by omega) (by omega) (by rw [hby]; omega) (by omega)
  simp only [Int.toNat_natCast, hsz] at hr
  rw [show (Value.agg #[.int .i64 0, .int .i64 0]).cells = #[.int .i64 0, .int .i64 0] from rfl, madeCells2] at hr
  unfold execOp
  simp only [hop, hl, hc, Sem.run_bind, hr, Result.andThen_ok, Sem.run_pure]
theorem POwn.zeros (w : World) (base : Nat) (e : TypeId) (m : Nat) (hb : base ≤ w.heap.size) (hm : m ≤ 9223372036854775807) :
    POwn (w.alloc (.cells (Array.replicate (m * 2) (.int .i64 0)) e)) base e (.slice (some ⟨w.heap.size, 0, none⟩) m m) (List.replicate m (0, 0)) := by
  have := World.ownsRow_lit (base := base) (e := e) (size := 2) w (Array.replicate (m * 2) (.int .i64 0)) m hb (by unfold maxLen; omega) (by simp)
  unfold POwn
  rw [List.length_replicate, fl_replicate]
  simpa using this
end app
end Go.Proofs.Ytighnjbcnfnpmaa

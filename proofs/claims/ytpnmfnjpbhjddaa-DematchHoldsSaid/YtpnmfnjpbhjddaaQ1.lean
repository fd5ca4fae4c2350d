/- Texts of the proof, one after another: Soft9 Gri9 Gri9c Lib ContL Clamp App Jump MapI MapB ContB Vw2 SoftA SoftB StepApp SoftR SoftS SoftC SoftI SoftD SoftE SoftP. -/
import Derived.Lib.Hide
import Derived.WalkKit
import Derived.WalkSpells
import Derived.WalkLawsBesides
import Derived.BigQuiet
import Derived.TacticsIn
import Derived.Laws.EntriesVeiled
import Derived.Test.YtpnmfnjpbhjddaaProg
import Derived.Shelf.Abstract
import Derived.Laws.OwnMore
import Derived.WalkMore
import Derived.ScopeJumps
import Derived.StillTailTactics
import Derived.RegionTactic
import Derived.Deep.QuietTactic
import Derived.IntWalk
import Derived.Deep.RegionLaw
import Derived.Deep.RegionHeld3
/- Soft values, as lists; no program. -/
namespace Go.Proofs.Ytpnmfnjpbhjddaa
namespace Soft
/-- The nearest soft value. -/
def clamp (v : Int) : Int := if 127 < v then 127 else if v < -127 then -127 else v
theorem clamp_lo (v : Int) : -127 ≤ clamp v := by unfold clamp; split <;> (try split) <;> omega
theorem clamp_hi (v : Int) : clamp v ≤ 127 := by unfold clamp; split <;> (try split) <;> omega
theorem clamp_id {v : Int} (h1 : -127 ≤ v) (h2 : v ≤ 127) : clamp v = v := by unfold clamp; rw [if_neg (by omega), if_neg (by omega)]
theorem clamp_big {v : Int} (h1 : 127 < v) : clamp v = 127 := by unfold clamp; rw [if_pos h1]
theorem clamp_small {v : Int} (h1 : v < -127) : clamp v = -127 := by unfold clamp; rw [if_neg (by omega), if_pos h1]
def add (a b : Int) : Int := clamp (clamp a + clamp b)
/-- No soft value. -/
def inv (v : Int) : Bool := (clamp v != v)
theorem inv_true {v : Int} (h : inv v = true) : 127 < v ∨ v < -127 := by
  by_cases h1 : 127 < v
  · exact .inl h1
  · by_cases h2 : v < -127
    · exact .inr h2
    · rw [inv, clamp_id (by omega) (by omega)] at h; simp at h
theorem inv_of {v : Int} (h : 127 < v ∨ v < -127) : inv v = true := by
  rcases h with h | h
  · rw [inv, clamp_big h]; simp; omega
  · rw [inv, clamp_small h]; simp; omega
theorem inv_false {v : Int} (h : inv v = false) : -127 ≤ v ∧ v ≤ 127 := by
  by_cases h1 : 127 < v
  · rw [inv_of (.inl h1)] at h; cases h
  · by_cases h2 : v < -127
    · rw [inv_of (.inr h2)] at h; cases h
    · omega
theorem inv_in {v : Int} (h1 : -127 ≤ v) (h2 : v ≤ 127) : inv v = false := by rw [inv, clamp_id h1 h2]; simp
def bad (l : List Int) : Bool := l.any inv
theorem bad_eq (B : List Int) : ((List.range B.length).any fun i => inv (B.getD i 0)) = bad B := by
  rw [Bool.eq_iff_iff]
  simp only [bad, List.any_eq_true, List.mem_range]
  constructor
  · rintro ⟨i, hi, h⟩
    exact ⟨B[i], List.getElem_mem hi, by simpa [List.getD, hi] using h⟩
  · rintro ⟨b, hb, h⟩
    obtain ⟨i, hi, rfl⟩ := List.getElem_of_mem hb
    exact ⟨i, hi, by simpa [List.getD, hi] using h⟩
theorem bad_at {B : List Int} (h : bad B = false) {i : Nat} (hi : i < B.length) : inv (B.getD i 0) = false := by
  have := List.any_eq_false.1 h B[i] (List.getElem_mem hi)
  simpa [List.getD, hi] using this
theorem bad_of {B : List Int} {i : Nat} (hi : i < B.length) (h : inv (B.getD i 0) = true) : bad B = true := by
  refine List.any_eq_true.2 ⟨B[i], List.getElem_mem hi, ?_⟩
  simpa [List.getD, hi] using h
theorem bad_no {B : List Int} (h : ∀ i, i < B.length → inv (B.getD i 0) = false) : bad B = false := by
  rw [bad, List.any_eq_false]
  intro x hx
  obtain ⟨i, hi, rfl⟩ := List.getElem_of_mem hx
  have := h i hi
  simpa [List.getD, hi] using this
/-- No bit. -/
def binv (x : Int) : Bool := decide (1 < x)
def bbad (B : List Int) : Bool := B.any binv
theorem bbad_eq (B : List Int) : ((List.range B.length).any fun i => binv (B.getD i 0)) = bbad B := by
  rw [Bool.eq_iff_iff]
  simp only [bbad, List.any_eq_true, List.mem_range]
  constructor
  · rintro ⟨i, hi, h⟩
    exact ⟨B[i], List.getElem_mem hi, by simpa [List.getD, hi] using h⟩
  · rintro ⟨b, hb, h⟩
    obtain ⟨i, hi, rfl⟩ := List.getElem_of_mem hb
    exact ⟨i, hi, by simpa [List.getD, hi] using h⟩
theorem bbad_at {B : List Int} (h : bbad B = false) {i : Nat} (hi : i < B.length) : binv (B.getD i 0) = false := by
  have := List.any_eq_false.1 h B[i] (List.getElem_mem hi)
  simpa [List.getD, hi] using this
theorem bbad_of {B : List Int} {i : Nat} (hi : i < B.length) (h : binv (B.getD i 0) = true) : bbad B = true := by
  refine List.any_eq_true.2 ⟨B[i], List.getElem_mem hi, ?_⟩
  simpa [List.getD, hi] using h
theorem bbad_no {B : List Int} (h : ∀ i, i < B.length → binv (B.getD i 0) = false) : bbad B = false := by
  rw [bbad, List.any_eq_false]
  intro x hx
  obtain ⟨i, hi, rfl⟩ := List.getElem_of_mem hx
  have := h i hi
  simpa [List.getD, hi] using this
/-- The first n values of a function. -/
def tab (g : Nat → Int) (n : Nat) : List Int := (List.range n).map g
theorem tab_succ (g : Nat → Int) (n : Nat) : tab g (n + 1) = tab g n ++ [g n] := by simp [tab, List.range_succ]
theorem tab_len (g : Nat → Int) (n : Nat) : (tab g n).length = n := by simp [tab]
theorem tab_zero (g : Nat → Int) : tab g 0 = [] := rfl
theorem tab_at (g : Nat → Int) {n k : Nat} (h : k < n) : (tab g n).getD k 0 = g k := by simp [tab, List.getD, h]
theorem tab_congr {f g : Nat → Int} {n : Nat} (h : ∀ k, k < n → f k = g k) : tab f n = tab g n := by
  unfold tab
  exact List.map_congr_left fun k hk => h k (List.mem_range.1 hk)
def sumG (A B : List Int) (k : Nat) : Int := add (A.getD k 0) (B.getD k 0)
def sumR (A B : List Int) : List Int × Int := if bad A = true ∨ bad B = true ∨ A.length ≠ B.length then ([], 2) else (tab (sumG A B) A.length, 0)
def sclG (A : List Int) (p q : Int) (k : Nat) : Int := clamp ((A.getD k 0 * p).tdiv q)
def sclR (A : List Int) (p q : Int) : List Int × Int := if bad A = true ∨ p < 0 ∨ 1073741824 < p ∨ q < 1 ∨ 1073741824 < q then ([], 2) else (tab (sclG A p q) A.length, 0)
def sgn (v : Int) : Int := if v < 0 then 1 else 0
def hardG (A : List Int) (k : Nat) : Int := sgn (A.getD k 0)
def hardR (A : List Int) : List Int × Int := if bad A = true then ([], 2) else (tab (hardG A) A.length, 0)
def idlG (B : List Int) (m : Int) (k : Nat) : Int := if B.getD k 0 = 1 then -m else m
def idlR (B : List Int) (m : Int) : List Int × Int := if m < 0 ∨ 127 < m then ([], 2) else if bbad B = true then ([], 3) else (tab (idlG B m) B.length, 0)
/-- Wrong and unknown elements among the first n. -/
def wrongN (A B : List Int) : Nat → Nat
  | 0 => 0
  | k + 1 => wrongN A B k + (if A.getD k 0 = 0 then 0 else if sgn (A.getD k 0) = B.getD k 0 then 0 else 1)
def unknownN (A : List Int) : Nat → Nat
  | 0 => 0
  | k + 1 => unknownN A k + (if A.getD k 0 = 0 then 1 else 0)
theorem wrongN_le (A B : List Int) : ∀ n, wrongN A B n ≤ n
  | 0 => Nat.le_refl _
  | n + 1 => by
    have := wrongN_le A B n
    unfold wrongN
    split
    · omega
    · split <;> omega
theorem unknownN_le (A : List Int) : ∀ n, unknownN A n ≤ n
  | 0 => Nat.le_refl _
  | n + 1 => by
    have := unknownN_le A n
    unfold unknownN
    split <;> omega
def cmpR (A B : List Int) : Nat × Nat × Int := if bad A = true ∨ A.length ≠ B.length then (0, 0, 2) else if bbad B = true then (0, 0, 3) else (wrongN A B A.length, unknownN A A.length, 0)
def mag (v : Int) : Int := if v < 0 then -v else v
/-- The least reliable of the first n elements. -/
def leastN (A : List Int) : Nat → Nat
  | 0 => 0
  | k + 1 => if mag (A.getD k 0) < mag (A.getD (leastN A k) 0) then k else leastN A k
theorem leastN_lt (A : List Int) : ∀ n m, n ≤ m → 0 < m → leastN A n < m
  | 0, m, _, h => h
  | n + 1, m, h1, h2 => by
    have := leastN_lt A n m (by omega) h2
    unfold leastN
    split <;> omega
def leastR (A : List Int) : Nat × Int := if bad A = true ∨ A.length = 0 then (0, 2) else (leastN A A.length, 0)
end Soft
end Go.Proofs.Ytpnmfnjpbhjddaa
/- The resource grid, plain; no program. -/
namespace Go.Proofs.Ytpnmfnjpbhjddaa
namespace Gr
/-- A valid configuration: blocks, control, cell. -/
structure Cf (b t l : Int) : Prop where
  b0 : 6 ≤ b
  b1 : b ≤ 100
  t0 : 1 ≤ t
  t1 : t ≤ 3
  l0 : 0 ≤ l
  l1 : l ≤ 503
def vld (b t l : Int) : Bool := decide (6 ≤ b) && decide (b ≤ 100) && (decide (1 ≤ t) && decide (t ≤ 3)) && (decide (0 ≤ l) && decide (l ≤ 503))
theorem vld_iff {b t l : Int} : vld b t l = true ↔ Cf b t l := by
  simp only [vld, Bool.and_eq_true, decide_eq_true_eq]
  constructor
  · rintro ⟨⟨⟨a, b⟩, c, d⟩, e, f⟩; exact ⟨a, b, c, d, e, f⟩
  · rintro ⟨a, b, c, d, e, f⟩; exact ⟨⟨⟨a, b⟩, c, d⟩, e, f⟩
/-- Whether element (s, k) is a reference. -/
def isr (s k l : Int) : Bool := ((s == 0 || s == 7) && (k % 6 == l % 6)) || ((s == 4 || s == 11) && (k % 6 == (l + 3) % 6))
/-- The kind of an element. -/
def kd (b t l i : Int) : Int := if isr (i / (12 * b)) (i % (12 * b)) l = true then 1 else if i / (12 * b) < t then 2 else 3
theorem rem_iff (k l o : Int) : ((k - l - o).tmod 6 == 0) = (k % 6 == (l + o) % 6) := by
  rw [Bool.eq_iff_iff, beq_iff_eq, beq_iff_eq]
  constructor
  · intro h
    have := Int.dvd_of_tmod_eq_zero h
    omega
  · intro h
    exact Int.tmod_eq_zero_of_dvd (by omega)
theorem kd_cases (b t l i : Int) : kd b t l i = 1 ∨ kd b t l i = 2 ∨ kd b t l i = 3 := by unfold kd; split <;> (try split) <;> simp
/-- The indices below n that a predicate takes. -/
def sel (p : Nat → Bool) (n : Nat) : List Int := ((List.range n).filter p).map fun i : Nat => (i : Int)
theorem sel_zero (p : Nat → Bool) : sel p 0 = [] := rfl
theorem sel_yes {p : Nat → Bool} {n : Nat} (h : p n = true) : sel p (n + 1) = sel p n ++ [(n : Int)] := by simp [sel, List.range_succ, h]
theorem sel_no {p : Nat → Bool} {n : Nat} (h : p n = false) : sel p (n + 1) = sel p n := by simp [sel, List.range_succ, h]
theorem sel_len (p : Nat → Bool) (n : Nat) : (sel p n).length ≤ n := by
  have := List.length_filter_le p (List.range n)
  simpa [sel] using this
theorem sel_congr {p q : Nat → Bool} {n : Nat} (h : ∀ k, k < n → p k = q k) : sel p n = sel q n := by
  unfold sel
  rw [List.filter_congr (fun k hk => h k (List.mem_range.1 hk))]
theorem sel_mem {p : Nat → Bool} {n : Nat} {x : Int} (h : x ∈ sel p n) : ∃ k : Nat, x = k ∧ k < n ∧ p k = true := by
  simp only [sel, List.mem_map, List.mem_filter, List.mem_range] at h
  obtain ⟨k, ⟨h1, h2⟩, h3⟩ := h
  exact ⟨k, h3.symm, h1, h2⟩
/-- The reference elements. -/
def refL (b t l : Int) : List Int := sel (fun i => kd b t l i == 1) (168 * b).toNat
/-- The data elements of a range. -/
def inb (b first blocks i : Int) : Bool := decide (first ≤ i % (12 * b) / 12) && decide (i % (12 * b) / 12 < first + blocks)
def datP (b t l first blocks : Int) (i : Nat) : Bool := inb b first blocks i && (kd b t l i == 3)
def datOk (b t l first blocks : Int) : Bool := vld b t l && decide (0 ≤ first) && decide (1 ≤ blocks) && decide (first ≤ b) && decide (blocks ≤ b - first)
def datL (b t l first blocks : Int) : List Int := if datOk b t l first blocks = true then sel (datP b t l first blocks) (168 * b).toNat else []
def datE (b t l first blocks : Int) : Int := if datOk b t l first blocks = true then 0 else 2
end Gr
end Go.Proofs.Ytpnmfnjpbhjddaa
/- A shorter selection is a prefix of a longer one. -/
namespace Go.Proofs.Ytpnmfnjpbhjddaa
namespace Gr
/-- A shorter selection is a prefix of a longer one. -/
theorem sel_pre {p : Nat → Bool} {m n : Nat} (h : m ≤ n) : (sel p m).length ≤ (sel p n).length ∧ ∀ k, k < (sel p m).length → (sel p n).getD k 0 = (sel p m).getD k 0 := by
  obtain ⟨d, rfl⟩ : ∃ d, n = m + d := ⟨n - m, by omega⟩
  clear h
  induction d with
  | zero => exact ⟨Nat.le_refl _, fun _ _ => rfl⟩
  | succ d ih =>
    rw [← Nat.add_assoc]
    cases hp : p (m + d) with
    | false => rw [sel_no hp]; exact ih
    | true =>
      rw [sel_yes hp]
      refine ⟨by simp; omega, fun k hk => ?_⟩
      rw [← ih.2 k hk]
      have := ih.1
      simp [List.getD, List.getElem?_append, show k < (sel p (m + d)).length by omega]
end Gr
end Go.Proofs.Ytpnmfnjpbhjddaa
/- A small library over any program: a slice value that can be read as a list of cells, and what follows from it. -/
namespace Go.Proofs.Ytpnmfnjpbhjddaa
open Go.RowKit

/-- The slice value v has length vs.length, and its elements (one cell each) can be read as vs. -/
def Vw (w : World) (v : Value) (vs : List Value) : Prop :=
  ∃ a c, v = .slice a vs.length c ∧ ∀ i (h : i < vs.length), ∃ b off, a = some ⟨b, off, none⟩ ∧ w.cell? ⟨b, off + i, none⟩ = some vs[i]

theorem Vw.nil (w : World) (a : Option Addr) (c : Nat) : Vw w (.slice a 0 c) [] := ⟨a, c, rfl, fun _ h => by simp at h⟩

theorem Vw.split {w : World} {v : Value} {vs : List Value} (h : Vw w v vs) :
    (∃ a c, v = .slice a 0 c ∧ vs = []) ∨ (∃ b off c, v = .slice (some ⟨b, off, none⟩) vs.length c ∧ 0 < vs.length ∧ ∀ i (_ : i < vs.length), w.cell? ⟨b, off + i, none⟩ = some vs[i]) := by
  obtain ⟨a, c, rfl, h⟩ := h
  cases vs with
  | nil => exact .inl ⟨a, c, rfl, rfl⟩
  | cons x l =>
    obtain ⟨b, off, rfl, _⟩ := h 0 (by simp)
    refine .inr ⟨b, off, c, rfl, by simp, fun i hi => ?_⟩
    obtain ⟨b', off', e, hc⟩ := h i hi
    simp at e
    obtain ⟨rfl, rfl⟩ := e
    exact hc

section rows
variable {P : Program}
theorem run_storeAt_row (w : World) (g off : Nat) (t ty : TypeId) (cur : Array Value) (v : Value) (hg : w.heap[g]? = some (.cells cur t (0, 0))) (hi : (P.info? ty).map (·.size) = some v.cells.size)
    (hfit : off + v.cells.size ≤ cur.size) (h1 : ∀ u ∈ v.cells.toList, u.oneCell' = true) :
    (Instr.storeAt ty (.pointer (some ⟨g, off, none⟩)) v).run P w = .ok () (w.setRow g (cur.toList.take off ++ v.cells.toList ++ cur.toList.drop (off + v.cells.size)).toArray) := by
  have hst := run_storeCells_at P g off t v.cells.toList 0 cur w hg (by simpa using hfit) h1
  cases hq : P.info? ty with
  | none => simp [hq] at hi
  | some i =>
    have hs : i.size = v.cells.size := by simpa [hq] using hi
    simp only [Nat.add_zero, Array.length_toList] at hst
    simp [Instr.storeAt, Instr.sureAddr, storeVar, sizeOf, typeInfo, hq, hs, hst]
theorem wpList_run_value {ops : Array Oper} {rest : List Oper} {o : Oper} {a : Act} {w w' : World} {v : Value} {Q : Exit → Act → World → Prop} (hgd : o.guard = none)
    (hrun : (execOp a.eval o).run P w = .ok (.value v) w') (h : wpList P ops Q rest (a.put o.dst v) w') : wpList P ops Q (o :: rest) a w :=
  wpList_plain hgd fun _ hK => by unfold Oper.wp; rw [hrun]; exact hK _ _ h
theorem wpList_run_skip {ops : Array Oper} {rest : List Oper} {o : Oper} {a : Act} {w w' : World} {Q : Exit → Act → World → Prop} (hgd : o.guard = none)
    (hrun : (execOp a.eval o).run P w = .ok .skip w') (h : wpList P ops Q rest (a.put o.dst undef) w') : wpList P ops Q (o :: rest) a w :=
  wpList_plain hgd fun _ hK => by unfold Oper.wp; rw [hrun]; exact hK _ _ h
theorem wpListIn_run_value {F : Fence} {n : Nat} {ops : Array Oper} {rest : List Oper} {o : Oper} {a : Act} {w w' : World} {v : Value} {Q : Exit → Act → World → Prop} (hgd : o.guard = none)
    (hab : o.about P w a.eval = none) (hdf : ∀ c, o.op ≠ .defer c)
    (hrun : (execOp a.eval o).run P w = .ok (.value v) w') (h : wpListIn F n P ops Q rest (a.put o.dst v) w') : wpListIn F n P ops Q (o :: rest) a w :=
  wpListIn_plain hgd fun _ hK => by
    unfold Oper.wpIn
    rw [Oper.semAt_eq _ _ _ hdf, hrun]
    exact ⟨fun f hf => (by rw [hab] at hf; cases hf), hK _ _ h⟩
theorem wpListIn_run_skip {F : Fence} {n : Nat} {ops : Array Oper} {rest : List Oper} {o : Oper} {a : Act} {w w' : World} {Q : Exit → Act → World → Prop} (hgd : o.guard = none)
    (hab : o.about P w a.eval = none) (hdf : ∀ c, o.op ≠ .defer c)
    (hrun : (execOp a.eval o).run P w = .ok .skip w') (h : wpListIn F n P ops Q rest (a.put o.dst undef) w') : wpListIn F n P ops Q (o :: rest) a w :=
  wpListIn_plain hgd fun _ hK => by
    unfold Oper.wpIn
    rw [Oper.semAt_eq _ _ _ hdf, hrun]
    exact ⟨fun f hf => (by rw [hab] at hf; cases hf), hK _ _ h⟩

theorem exec_store_row {o : Oper} {a : Act} {w : World} (ty : TypeId) (x y : Operand) (ho : o.op = .store ty x y)
    (g off : Nat) (hx : a.eval x = .pointer (some ⟨g, off, none⟩)) (t : TypeId) (cur : Array Value) (v : Value) (hy : a.eval y = v) (hg : w.heap[g]? = some (.cells cur t (0, 0)))
    (hi : (P.info? ty).map (·.size) = some v.cells.size) (hfit : off + v.cells.size ≤ cur.size) (h1 : ∀ u ∈ v.cells.toList, u.oneCell' = true) :
    (execOp a.eval o).run P w = .ok .skip (w.setRow g (cur.toList.take off ++ v.cells.toList ++ cur.toList.drop (off + v.cells.size)).toArray) := by
  unfold execOp
  simp only [ho, hx, hy, Sem.run_bind, run_storeAt_row w g off t ty cur v hg hi hfit h1, Result.andThen_ok, Sem.run_pure]
theorem setRow_alloc (w : World) (cs cs' : Array Value) (t : TypeId) : (w.alloc (.cells cs t)).setRow w.heap.size cs' = w.alloc (.cells cs' t) := by
  unfold World.setRow World.alloc
  congr 1
  apply Array.ext_getElem?
  intro i
  simp only [Array.getElem?_modify, Array.getElem?_push]
  by_cases h : i = w.heap.size
  · subst h; simp
  · simp [h, Ne.symm h]
theorem splice_all (cur : Array Value) (v : Value) (h : v.cells.size = cur.size) : (cur.toList.take 0 ++ v.cells.toList ++ cur.toList.drop (0 + v.cells.size)).toArray = v.cells := by
  rw [List.take_zero, List.nil_append, List.drop_eq_nil_of_le (by simp [h]), List.append_nil]
/-- A variable that was laid just before is filled whole. -/
theorem exec_store_new {o : Oper} {a : Act} {w : World} (ty : TypeId) (x y : Operand) (ho : o.op = .store ty x y)
    (hx : a.eval x = .pointer (some ⟨w.heap.size, 0, none⟩)) (t : TypeId) (cur : Array Value) (v : Value) (hy : a.eval y = v)
    (hi : (P.info? ty).map (·.size) = some v.cells.size) (hfit : v.cells.size = cur.size) (h1 : ∀ u ∈ v.cells.toList, u.oneCell' = true) :
    (execOp a.eval o).run P (w.alloc (.cells cur t)) = .ok .skip (w.alloc (.cells v.cells t)) := by
  rw [exec_store_row ty x y ho w.heap.size 0 hx t cur v hy (heap_alloc_new w _) hi (by omega) h1]
  rw [splice_all cur v hfit, setRow_alloc]
theorem exec_load_row {o : Oper} {a : Act} {w : World} (ty : TypeId) (x : Operand) (ho : o.op = .load ty x)
    (g : Nat) (hx : a.eval x = .pointer (some ⟨g, 0, none⟩)) (t : TypeId) (cs : Array Value) (fr : Nat × Nat) (d : TypeDesc) (hg : w.heap[g]? = some (.cells cs t fr))
    (hu : P.underlying ty = some d) (hd : (match d with | .struct _ | .array _ _ => true | _ => false) = true) (hi : (P.info? ty).map (·.size) = some cs.size) :
    (execOp a.eval o).run P w = .ok (.value (.agg cs)) w := by
  unfold execOp
  simp only [ho, hx, Instr.loadAt, Instr.sureAddr, Sem.run_bind, Sem.run_pure, Result.andThen_ok, run_loadVar_row w g t ty cs fr d hg hu hd hi]
end rows

/-! Frames: which blocks may have changed. -/
structure Fr (S : Nat → Prop) (w w' : World) : Prop where
  os : w'.os = w.os
  tape : w'.tape = w.tape
  output : w'.output = w.output
  size : w.heap.size ≤ w'.heap.size
  block : ∀ k, k < w.heap.size → ¬ S k → w'.heap[k]? = w.heap[k]?
theorem Fr.refl (S : Nat → Prop) (w : World) : Fr S w w := ⟨rfl, rfl, rfl, Nat.le_refl _, fun _ _ _ => rfl⟩
theorem Fr.trans {S : Nat → Prop} {a b c : World} (h : Fr S a b) (k : Fr S b c) : Fr S a c :=
  ⟨k.os.trans h.os, k.tape.trans h.tape, k.output.trans h.output, Nat.le_trans h.size k.size, fun i hi hs => (k.block i (Nat.lt_of_lt_of_le hi h.size) hs).trans (h.block i hi hs)⟩
theorem Fr.mono {S T : Nat → Prop} {a b : World} (h : Fr S a b) (hs : ∀ k, k < a.heap.size → S k → T k) : Fr T a b :=
  ⟨h.os, h.tape, h.output, h.size, fun k hk hn => h.block k hk (fun h' => hn (hs k hk h'))⟩
theorem Fr.of_below {B : Nat} {a b : World} (h : Below B a b) : Fr (fun k => B ≤ k) a b := ⟨h.os, h.tape, h.output, h.size, fun k _ hn => h.block k (by omega)⟩
theorem Fr.below {S : Nat → Prop} {B : Nat} {a b : World} (h : Fr S a b) (hB : B ≤ a.heap.size) (hs : ∀ k, k < B → ¬ S k) : Below B a b :=
  ⟨h.os, h.tape, h.output, h.size, fun k hk => h.block k (by omega) (hs k hk)⟩
theorem Fr.of_grownBy {row : Option Nat} {a b : World} (h : a.grownBy b row) : Fr (fun k => row = some k) a b := ⟨h.os, h.tape, h.output, h.size, fun k hk hn => h.block k hk (fun e => hn e.symm)⟩
theorem Fr.alloc (S : Nat → Prop) (w : World) (o : Obj) : Fr S w (w.alloc o) := ⟨rfl, rfl, rfl, by simp, fun k hk _ => Below.heap_alloc w o k hk⟩
theorem Fr.drewN (S : Nat → Prop) (w : World) (n : Nat) : Fr S w (w.drewN n) := ⟨rfl, rfl, rfl, Nat.le_refl _, fun _ _ _ => rfl⟩
theorem Fr.drew (S : Nat → Prop) (w : World) : Fr S w w.drew := ⟨rfl, rfl, rfl, Nat.le_refl _, fun _ _ _ => rfl⟩
theorem Fr.setCell {S : Nat → Prop} (w : World) (p : Addr) (u : Value) (h : S p.block) : Fr S w (w.setCell p u) :=
  ⟨rfl, rfl, rfl, by simp [World.setCell], fun k _ hn => Below.heap_setCell _ _ _ _ (fun e => hn (by rw [e]; exact h))⟩
theorem Fr.setRow {S : Nat → Prop} (w : World) (g : Nat) (cs : Array Value) (h : S g) : Fr S w (w.setRow g cs) :=
  ⟨rfl, rfl, rfl, by simp, fun k _ hn => setRow_other w g k cs (fun e => hn (by rw [e]; exact h))⟩
theorem Fr.cell {S : Nat → Prop} {a b : World} (h : Fr S a b) {p : Addr} (hp : p.block < a.heap.size) (hs : ¬ S p.block) : b.cell? p = a.cell? p := World.cell?_of_block (h.block _ hp hs)

theorem below_then {w a b : World} (h : Below w.heap.size w a) (k : Below a.heap.size a b) : Below w.heap.size w b := h.trans (k.mono h.size)
theorem below_drewN (w : World) (n : Nat) : Below w.heap.size w (w.drewN n) := ⟨rfl, rfl, rfl, Nat.le_refl _, fun _ _ => rfl⟩
theorem below_alloc (w : World) (o : Obj) : Below w.heap.size w (w.alloc o) := (Below.refl _ _).alloc (Nat.le_refl _) _
theorem below_refl (w : World) : Below w.heap.size w w := Below.refl _ _
/-- A slice of ints that came in: it can be read as the list zs of its elements, each of which fits its kind. -/
def IntsIn (k : IntKind) (w : World) (v : Value) (zs : List Int) : Prop := Vw w v (zs.map (Value.int k)) ∧ zs.length ≤ 9223372036854775807 ∧ ∀ n ∈ zs, (Lit.int k n).wf = true
theorem IntsIn.nil (k : IntKind) (w : World) : IntsIn k w (.slice none 0 0) [] := ⟨Vw.nil _ _ _, by simp, by simp⟩
theorem IntsIn.of_cells {k : IntKind} {w : World} {x : Addr} {l c : Nat} {zs : List Int} (hl : l ≤ c) (hm : c ≤ maxLen) (hz : zs.length = c) (hcell : ∀ i, i < zs.length → w.cell? (x.add i) = some (.int k (zs.getD i 0))) (hwz : ∀ n ∈ zs, (Lit.int k n).wf = true) :
    IntsIn k w (.slice (some x) l c) (zs.take l) := by
  have hlen : (zs.take l).length = l := by simp; omega
  refine ⟨⟨some x, c, by rw [List.length_map, hlen], fun i hi => ?_⟩, by rw [hlen]; unfold maxLen at hm; omega, fun n hn => hwz n (List.mem_of_mem_take hn)⟩
  rw [List.length_map, hlen] at hi
  have hc := hcell i (by omega)
  cases x with
  | mk b off spot =>
    cases spot with
    | none =>
      refine ⟨b, off, rfl, ?_⟩
      rw [show (⟨b, off, none⟩ : Addr).add i = ⟨b, off + i, none⟩ from Addr.add_lit _ _ _] at hc
      rw [hc]
      simp [List.getD, show i < zs.length by omega]
    | some s =>
      exfalso
      have h0 := hcell 0 (by omega)
      rw [show (⟨b, off, some s⟩ : Addr).add 0 = ⟨b, off, some s⟩ from rfl] at h0
      unfold World.cell? at h0
      simp at h0
      split at h0 <;> simp at h0

/-! Rows that the call owns: one cell an element. -/
def OwnL (w : World) (base : Nat) (e : TypeId) (v : Value) (xs : List Value) : Prop := w.ownsRow base e 1 v xs.length xs
theorem OwnL.nil (w : World) (base : Nat) (e : TypeId) : OwnL w base e (.slice none 0 0) [] := World.ownsRow_nil w base e 1
theorem OwnL.fr {S : Nat → Prop} {w w' : World} {base : Nat} {e : TypeId} {v : Value} {xs : List Value} (h : OwnL w base e v xs) (hf : Fr S w w') (hs : ∀ g, v.ownBlock = some g → ¬ S g) : OwnL w' base e v xs := by
  refine ⟨h.1, ?_⟩
  rcases h.2 with hn | ⟨g, cap, cur, rfl, hb, hg, r⟩
  · exact .inl hn
  · exact .inr ⟨g, cap, cur, rfl, hb, by rw [hf.block g (Array.getElem?_eq_some_iff.1 hg).1 (hs g rfl)]; exact hg, r⟩
theorem OwnL.alloc {w : World} {base : Nat} {e : TypeId} {v : Value} {xs : List Value} (h : OwnL w base e v xs) (o : Obj) : OwnL (w.alloc o) base e v xs := World.ownsRow.alloc h o
theorem OwnL.base_mono {w : World} {base base' : Nat} {e : TypeId} {v : Value} {xs : List Value} (h : OwnL w base e v xs) (hb : base' ≤ base) : OwnL w base' e v xs := by
  refine ⟨h.1, ?_⟩
  rcases h.2 with hn | ⟨g, cap, cur, rfl, hb', r⟩
  · exact .inl hn
  · exact .inr ⟨g, cap, cur, rfl, by omega, r⟩
theorem OwnL.block {w : World} {base : Nat} {e : TypeId} {v : Value} {xs : List Value} (h : OwnL w base e v xs) {g : Nat} (hg : v.ownBlock = some g) : base ≤ g ∧ g < w.heap.size := World.ownsRow.lt h g hg
theorem OwnL.vw {w : World} {base : Nat} {e : TypeId} {v : Value} {xs : List Value} (h : OwnL w base e v xs) : Vw w v xs := by
  rcases h.2 with ⟨rfl, hn⟩ | ⟨g, cap, cur, rfl, hb, hg, hc, hm, hcs, ht⟩
  · have : xs = [] := List.eq_nil_of_length_eq_zero hn
    subst this
    exact Vw.nil _ _ _
  · refine ⟨_, _, rfl, fun i hi => ⟨g, 0, rfl, ?_⟩⟩
    rw [cell_of_row w g (0 + i) cur e (0, 0) hg, Nat.zero_add]
    simp only [Nat.mul_one] at ht hcs
    have h5 := congrArg (fun l => l[i]?) ht
    simp only [List.getElem?_take, if_pos hi, List.getElem?_eq_getElem hi] at h5
    simpa using h5
theorem OwnL.at {w : World} {base : Nat} {e : TypeId} {g n cap : Nat} {xs : List Value} (h : OwnL w base e (.slice (some ⟨g, 0, none⟩) n cap) xs) (i : Nat) (hi : i < xs.length) : w.cell? ⟨g, i, none⟩ = some xs[i] := by
  obtain ⟨a, c, e1, hc⟩ := h.vw
  simp only [Value.slice.injEq] at e1
  obtain ⟨rfl, _, _⟩ := e1
  obtain ⟨b, off, e2, hb⟩ := hc i hi
  simp only [Option.some.injEq, Addr.mk.injEq, and_true] at e2
  obtain ⟨rfl, rfl⟩ := e2
  simpa using hb
theorem OwnL.cap {w : World} {base : Nat} {e : TypeId} {g n cap : Nat} {xs : List Value} (h : OwnL w base e (.slice (some ⟨g, 0, none⟩) n cap) xs) : n ≤ cap ∧ cap ≤ 9223372036854775807 := by
  rcases h.2 with ⟨h1, _⟩ | ⟨g', cap', cur, h1, _, _, h2, h3, _⟩
  · simp at h1
  · simp only [Value.slice.injEq] at h1
    obtain ⟨_, rfl, rfl⟩ := h1
    exact ⟨h2, by unfold maxLen at h3; omega⟩
theorem OwnL.shape {w : World} {base : Nat} {e : TypeId} {v : Value} {xs : List Value} (h : OwnL w base e v xs) (n : Nat) (hn : xs.length = n) (h0 : n ≠ 0) : ∃ g cap, v = .slice (some ⟨g, 0, none⟩) n cap := by
  subst hn
  rcases h.2 with ⟨_, h1⟩ | ⟨g, cap, cur, rfl, _⟩
  · exact absurd h1 h0
  · exact ⟨g, cap, rfl⟩
theorem Vw.fr {S : Nat → Prop} {w w' : World} {v : Value} {vs : List Value} (h : Vw w v vs) (hf : Fr S w w') (hs : ∀ b off n c, v = .slice (some ⟨b, off, none⟩) n c → ¬ S b) : Vw w' v vs := by
  obtain ⟨a, c, rfl, h⟩ := h
  refine ⟨a, c, rfl, fun i hi => ?_⟩
  obtain ⟨b, off, rfl, hc⟩ := h i hi
  refine ⟨b, off, rfl, ?_⟩
  rw [hf.cell (World.block_lt_of_cell? w _ hc) (hs b off _ c rfl)]
  exact hc
theorem Vw.below {B : Nat} {w w' : World} {v : Value} {vs : List Value} (h : Vw w v vs) (hf : Below B w w') (hB : w.heap.size ≤ B) : Vw w' v vs := by
  obtain ⟨a, c, rfl, h⟩ := h
  refine ⟨a, c, rfl, fun i hi => ?_⟩
  obtain ⟨b, off, rfl, hc⟩ := h i hi
  refine ⟨b, off, rfl, ?_⟩
  rw [hf.cell (p := ⟨b, off + i, none⟩) (Nat.lt_of_lt_of_le (World.block_lt_of_cell? w _ hc) hB)]
  exact hc
theorem Vw.drewN {w : World} {v : Value} {vs : List Value} (h : Vw w v vs) (n : Nat) : Vw (w.drewN n) v vs := h.below (Below.mono ⟨rfl, rfl, rfl, Nat.le_refl _, fun _ _ => rfl⟩ (Nat.le_refl w.heap.size)) (Nat.le_refl _)
theorem ownsRow_shape {w : World} {base : Nat} {e : TypeId} {size : Nat} {v : Value} {n : Nat} {xs : List Value} (h : w.ownsRow base e size v n xs) (hn : n ≠ 0) : ∃ g cap, v = .slice (some ⟨g, 0, none⟩) n cap := by
  rcases h.2 with ⟨_, h0⟩ | ⟨g, cap, cur, rfl, _⟩
  · exact absurd h0 hn
  · exact ⟨g, cap, rfl⟩

theorem Vw.take {w : World} {b off n c : Nat} {vs : List Value} (h : Vw w (.slice (some ⟨b, off, none⟩) n c) vs) (m c' : Nat) (hm : m ≤ vs.length) : Vw w (.slice (some ⟨b, off, none⟩) m c') (vs.take m) := by
  obtain ⟨a, c0, e1, hc⟩ := h
  simp only [Value.slice.injEq] at e1
  obtain ⟨rfl, _, _⟩ := e1
  have hl : (vs.take m).length = m := by simp; omega
  refine ⟨_, c', by rw [hl], fun i hi => ?_⟩
  rw [hl] at hi
  obtain ⟨b', off', e2, hb⟩ := hc i (by omega)
  exact ⟨b', off', e2, by simpa using hb⟩
theorem Vw.lit (w : World) (cs : Array Value) (e : TypeId) (n : Nat) (h : cs.size = n) : Vw (w.alloc (.cells cs e)) (.slice (some ⟨w.heap.size, 0, none⟩) n n) cs.toList := by
  subst h
  refine ⟨_, _, by rw [Array.length_toList], fun i hi => ⟨w.heap.size, 0, rfl, ?_⟩⟩
  rw [Nat.zero_add, cell_of_row _ _ _ _ _ _ (heap_alloc_new w _), Array.getElem?_eq_getElem (by simpa using hi)]
  simp
/-- What an append of one element asks: the element type's row of the table. -/
structure Elem1 (P : Program) (t e : TypeId) (bytes : Nat) (z : Value) : Prop where
  slice : P.underlying t = some (.slice e)
  info : ∃ i, P.info? e = some i ∧ i.zero = some z ∧ i.size = 1 ∧ i.bytes = bytes
  one : z.cells = #[z]
theorem Elem1.mk' {P : Program} {t e : TypeId} {bytes : Nat} {z : Value} (h : P.underlying t = some (.slice e)) (hi : (P.info? e).map (fun i => (i.zero, i.size, i.bytes)) = some (some z, 1, bytes)) (hz : z.cells = #[z]) : Elem1 P t e bytes z := by
  obtain ⟨i, h1, h2, h3, h4⟩ := info_parts hi
  exact ⟨h, ⟨i, h1, h2, h3, h4⟩, hz⟩
theorem OwnL.stored {w : World} {base : Nat} {e : TypeId} {g n cap : Nat} {xs : List Value} (h : OwnL w base e (.slice (some ⟨g, 0, none⟩) n cap) xs) (j : Nat) (u : Value) :
    OwnL (w.setCell ⟨g, j, none⟩ u) base e (.slice (some ⟨g, 0, none⟩) n cap) (xs.set j u) := by
  have hn : n = xs.length := by
    rcases h.2 with ⟨h1, _⟩ | ⟨g', cap', cur, h1, _⟩
    · simp at h1
    · simp at h1; exact h1.2.1
  subst hn
  have := (World.ownsRow.stored h j u).1
  unfold OwnL
  rwa [List.length_set]
theorem OwnL.free {w : World} {base : Nat} {e : TypeId} {g n cap : Nat} {xs : List Value} (h : OwnL w base e (.slice (some ⟨g, 0, none⟩) n cap) xs) (j : Nat) : w.frozen? ⟨g, j, none⟩ = false := by
  have hn : n = xs.length := by
    rcases h.2 with ⟨h1, _⟩ | ⟨g', cap', cur, h1, _⟩
    · simp at h1
    · simp at h1; exact h1.2.1
  subst hn
  exact World.ownsRow.frozenAt h j

section app
variable {P : Program}
theorem exec_append_one {o : Oper} {a : Act} {w : World} {t e : TypeId} {bytes : Nat} {z : Value} (E : Elem1 P t e bytes z) (s x : Operand)
    (ho : o.op = .call { callee := .builtin .append, args := #[s, x], argTypes := #[t, t] })
    (base : Nat) (v : Value) (xs : List Value) (hs : a.eval s = v) (hown : OwnL w base e v xs) (u : Value) (hu : u.oneCell' = true)
    (hx : a.eval x = .slice (some ⟨w.heap.size, 0, none⟩) 1 1) (hlen : (xs.length + 1) * bytes ≤ 140737488355328) (hmax : xs.length + 1 ≤ 9223372036854775807) (hbase : base ≤ w.heap.size) :
    ∃ g cap w', (execOp a.eval o).run P (w.alloc (.cells #[u] e)) = .ok (.value (.slice (some ⟨g, 0, none⟩) (xs.length + 1) cap)) w' ∧
      OwnL w' base e (.slice (some ⟨g, 0, none⟩) (xs.length + 1) cap) (xs ++ [u]) ∧ Fr (fun k => v.ownBlock = some k) w w' := by
  obtain ⟨i, hi, hz, hsz, hby⟩ := E.info
  have hzs : z.cells.size = 1 := by rw [E.one]; rfl
  obtain ⟨v', w', hr, h2, h3, h4⟩ := run_append_own (P := P) (w.alloc (.cells #[u] e)) base t o.type e i z 1 bytes E.slice hi hz hsz hby hzs (by decide) v xs.length xs (World.ownsRow.alloc hown _)
    ⟨w.heap.size, 0, none⟩ 1 1 [u] rfl (cell_one_new w u e) (by intro y hy; simp at hy; subst hy; exact hu) (by unfold maxLen; omega) hlen (by simp; omega)
  obtain ⟨g, cap, rfl⟩ := ownsRow_shape h2 (by omega)
  refine ⟨g, cap, w', ?_, ?_, (Fr.alloc _ w _).trans (Fr.of_grownBy h3)⟩
  · unfold execOp
    simp only [ho, resolve, invoke, builtin, Sem.run_bind, Sem.run_pure, Result.andThen_ok, List.map_toArray, List.map_cons, List.map_nil, hs, hx, hr]
  · unfold OwnL
    simpa using h2
theorem wpList_append_one {ops : Array Oper} {rest : List Oper} {o : Oper} {a : Act} {w : World} {Q : Exit → Act → World → Prop} (hgd : o.guard = none) {t e : TypeId} {bytes : Nat} {z : Value} (E : Elem1 P t e bytes z) (s x : Operand)
    (ho : o.op = .call { callee := .builtin .append, args := #[s, x], argTypes := #[t, t] })
    (base : Nat) (v : Value) (n : Nat) (xs : List Value) (hn : xs.length = n) (hs : a.eval s = v) (hown : OwnL w base e v xs) (u : Value) (hu : u.oneCell' = true)
    (hx : a.eval x = .slice (some ⟨w.heap.size, 0, none⟩) 1 1) (hlen : (n + 1) * bytes ≤ 140737488355328) (hmax : n + 1 ≤ 9223372036854775807) (hbase : base ≤ w.heap.size)
    (h : ∀ g cap w', OwnL w' base e (.slice (some ⟨g, 0, none⟩) (n + 1) cap) (xs ++ [u]) → Fr (fun k => v.ownBlock = some k) w w' → wpList P ops Q rest (a.put o.dst (.slice (some ⟨g, 0, none⟩) (n + 1) cap)) w') :
    wpList P ops Q (o :: rest) a (w.alloc (.cells #[u] e)) := by
  subst hn
  obtain ⟨g, cap, w', hr, h1, h2⟩ := exec_append_one E s x ho base v xs hs hown u hu hx hlen hmax hbase
  exact wpList_run_value hgd hr (h g cap w' h1 h2)
theorem exec_make_one {o : Oper} {a : Act} {w : World} {t e : TypeId} {bytes : Nat} {z : Value} (E : Elem1 P t e bytes z) (l c : Operand) (hop : o.op = Op.makeSlice t l c)
    (kl kc : IntKind) (L C : Int) (n m : Nat) (hl : a.eval l = .int kl L) (hc : a.eval c = .int kc C) (hL : L = n) (hC : C = m) (hnm : n ≤ m) (hb : bytes * m ≤ 281474976710656) (hm : m ≤ 9223372036854775807) :
    (execOp a.eval o).run P w = .ok (.value (.slice (some ⟨w.heap.size, 0, none⟩) n m)) (w.alloc (.cells (Array.replicate m z) e)) := by
  subst hL hC
  obtain ⟨i, hi, hz, hsz, hby⟩ := E.info
  have hr := run_make (P := P) w t e i z E.slice hi hz kl kc n m (by omega) (by omega) (by rw [hby]; omega) (by omega)
  simp only [Int.toNat_natCast, hsz, Nat.mul_one] at hr
  rw [show madeCells z.cells m = Array.replicate m z from by rw [E.one]; apply Array.toList_inj.1; rw [toList_madeCells_one z m]; simp] at hr
  unfold execOp
  simp only [hop, hl, hc, Sem.run_bind, hr, Result.andThen_ok, Sem.run_pure]
theorem OwnL.zeros (w : World) (base : Nat) (e : TypeId) (m : Nat) (z : Value) (hb : base ≤ w.heap.size) (hm : m ≤ 9223372036854775807) :
    OwnL (w.alloc (.cells (Array.replicate m z) e)) base e (.slice (some ⟨w.heap.size, 0, none⟩) m m) (List.replicate m z) := by
  have := World.ownsRow_lit (base := base) (e := e) (size := 1) w (Array.replicate m z) m hb (by unfold maxLen; omega) (by simp)
  simpa [OwnL] using this
theorem OwnL.made (w : World) (base : Nat) (e : TypeId) (xs : List Value) (hb : base ≤ w.heap.size) (hm : xs.length ≤ 9223372036854775807) :
    OwnL (w.alloc (.cells xs.toArray e)) base e (.slice (some ⟨w.heap.size, 0, none⟩) xs.length xs.length) xs := by
  have := World.ownsRow_lit (base := base) (e := e) (size := 1) w xs.toArray xs.length hb (by unfold maxLen; omega) (by simp)
  simpa [OwnL] using this
end app

theorem ret_bool {a b : Bool} (h : a = b) : Ending.returned (.bool a) = .returned (.bool b) := by rw [h]
theorem ret_int {k : IntKind} {a b : Int} (h : a = b) : Ending.returned (.int k a) = .returned (.int k b) := by rw [h]
theorem take_eq_succ {α : Type} {l m : List α} {k : Nat} (hk : k < l.length) (hk' : k < m.length) (h : l.take k = m.take k) (he : l[k] = m[k]) : l.take (k + 1) = m.take (k + 1) := by
  rw [List.take_succ_eq_append_getElem hk, List.take_succ_eq_append_getElem hk', h, he]
theorem hid {p : Prop} (h : p) : Hid p := h

end Go.Proofs.Ytpnmfnjpbhjddaa
/- slices.ContainsFunc and slices.IndexFunc at userplane/soft.list,int: their contracts for a predicate that may make memory. -/
namespace Go.Proofs.Ytpnmfnjpbhjddaa
open Go.RowKit Go.Shelf
set_option linter.unusedVariables false

set_option maxHeartbeats 1000000 in
theorem lindex_any (w : World) (v : Value) (vs : List Value) (hv : Vw w v vs) (hl : vs.length ≤ 9223372036854775807) (F : FuncId) (caps : Array Value) (hef : ∀ args w, (callFunc F args).run Try.prog w = .ok (.enter F args) w) (p : Nat → Bool)
    (hp : ∀ i (h : i < vs.length) W, Below w.heap.size w W → Calls Try.prog F (#[vs[i]] ++ caps) W fun e w' => e = .returned (.bool (p i)) ∧ Below W.heap.size W w') :
    Calls Try.prog 60 #[v, .func (.func F) #[] caps] w fun e w' => (∃ n : Int, e = .returned (.int .i64 n) ∧ Hid (decide (0 ≤ n) = (List.range vs.length).any p)) ∧ Below w.heap.size w w' := by
  have HP := hid hp
  clear hp
  rcases hv.split with ⟨a, c, rfl, rfl⟩ | ⟨b, off, c, rfl, hp0, hc⟩
  · go_enter Try.func60, Try.ntmps60
    go_wp2
    refine wp_loop_rounds 1 ?_
    rw [rounds_succ]
    go_wp2
    go_ret
    exact ⟨⟨-1, rfl, by simp [Hid]⟩, Below.refl _ _⟩
  · have HC := hid hc
    have hbl : b < w.heap.size := World.block_lt_of_cell? w _ (hc 0 hp0)
    clear hc hv
    go_enter Try.func60, Try.ntmps60
    go_wp2
    go_loopw [8] (fun i wr => ∃ k : Nat, k ≤ vs.length ∧ i = .int .i64 k ∧ Hid ((List.range k).any p = false) ∧ Below w.heap.size w wr) (fun i _ => vs.length - (intOf i).toNat)
    case atStart => exact ⟨0, Nat.zero_le _, rfl, by simp [Hid], Below.refl _ _⟩
    case round =>
      obtain ⟨k, hk, rfl, hno, hB⟩ := hrel
      by_cases hlt : k < vs.length
      · have hck := (hB.cell (p := ⟨b, off + k, none⟩) hbl).trans (HC.out k hlt)
        have hcall := HP.out k hlt wr hB
        obtain ⟨x, hx⟩ : ∃ x, x = vs[k] := ⟨_, rfl⟩
        rw [← hx] at hck hcall
        clear hx
        cases hpk : p k with
        | true =>
          rw [hpk] at hcall
          have HK := hid hpk
          clear hpk
          go_wp2_with (refine hcall.mono ?_; rintro e w' ⟨rfl, hB1⟩)
          go_ret
          refine ⟨⟨k, rfl, ?_⟩, below_then hB hB1⟩
          rw [Hid, List.any_eq_true.2 ⟨k, by simpa using hlt, HK.out⟩]; simp
        | false =>
          rw [hpk] at hcall
          have HK := hid hpk
          clear hpk
          go_wp2_with (refine hcall.mono ?_; rintro e w' ⟨rfl, hB1⟩)
          have hB2 := below_then hB hB1
          clear hB hB1 hck
          go_roundw
          case rel => exact ⟨k + 1, by omega, by go_num, by rw [Hid, List.range_succ, List.any_append, hno.out]; simp [HK.out], hB2⟩
          case measure => simp [intOf]; omega
      · obtain rfl : k = vs.length := by omega
        go_wp2
        go_ret
        exact ⟨⟨-1, rfl, by rw [Hid, hno.out]; simp⟩, hB⟩

theorem lcontains_any (w : World) (v : Value) (vs : List Value) (hv : Vw w v vs) (hl : vs.length ≤ 9223372036854775807) (F : FuncId) (caps : Array Value) (hef : ∀ args w, (callFunc F args).run Try.prog w = .ok (.enter F args) w) (p : Nat → Bool)
    (hp : ∀ i (h : i < vs.length) W, Below w.heap.size w W → Calls Try.prog F (#[vs[i]] ++ caps) W fun e w' => e = .returned (.bool (p i)) ∧ Below W.heap.size W w') :
    Calls Try.prog 54 #[v, .func (.func F) #[] caps] w fun e w' => e = .returned (.bool ((List.range vs.length).any p)) ∧ Below w.heap.size w w' := by
  have HI := hid (lindex_any w v vs hv hl F caps hef p hp)
  have HV := hid hv
  clear hp hv hef
  go_enter Try.func54, Try.ntmps54
  go_wp2_with (go_at_call 60; refine HI.out.mono ?_; rintro e w' ⟨⟨n, rfl, hn⟩, hB⟩)
  go_ret
  exact ⟨ret_bool hn.out, hB⟩
end Go.Proofs.Ytpnmfnjpbhjddaa
/- soft.bounds, Clamp, Add; Valid; the reference's Clamp and Add. -/
namespace Go.Proofs.Ytpnmfnjpbhjddaa
open Go.RowKit Go.Shelf
set_option linter.unusedVariables false
theorem bcell {W w1 : World} (hb : Below W.heap.size W w1) : (∀ b o, b < W.heap.size → w1.cell? ⟨b, o, none⟩ = W.cell? ⟨b, o, none⟩) ∧ (∀ b o, b < W.heap.size → w1.frozen? ⟨b, o, none⟩ = W.frozen? ⟨b, o, none⟩) :=
  ⟨fun b o h => hb.cell (p := ⟨b, o, none⟩) h, fun b o h => hb.frozen (p := ⟨b, o, none⟩) h⟩
theorem bounds_any (w : World) : Calls Try.prog 56 #[] w fun e w' => e = .returned (.agg #[.int .i64 (-127), .int .i64 127]) ∧ Below w.heap.size w w' := by
  go_enter Try.func56, Try.ntmps56
  go_wp2
  exact bodyPost_ret (v := .agg #[.int .i64 (-127), .int .i64 127]) (by simp [results, Try.results56, go_sem]) rfl ⟨rfl, (Below.refl _ _).alloc (Nat.le_refl _) _⟩
theorem clamp_any (v : Int) (w : World) : Calls Try.prog 50 #[.int .i64 v] w fun e w' => e = .returned (.int .i64 (Soft.clamp v)) ∧ Below w.heap.size w w' := by
  by_cases h1 : 127 < v
  · rw [Soft.clamp_big h1]
    go_enter Try.func50, Try.ntmps50
    go_wp2_with (go_at_call 56; refine (bounds_any _).mono ?_; rintro e w1 ⟨rfl, hB⟩)
    all_goals (go_ret; exact ⟨ret_int (by omega), hB.trans (((Below.refl _ _).alloc hB.size _))⟩)
  · by_cases h2 : v < -127
    · rw [Soft.clamp_small h2]
      go_enter Try.func50, Try.ntmps50
      go_wp2_with (go_at_call 56; refine (bounds_any _).mono ?_; rintro e w1 ⟨rfl, hB⟩)
      all_goals (go_ret; exact ⟨ret_int (by omega), hB.trans (((Below.refl _ _).alloc hB.size _))⟩)
    · rw [Soft.clamp_id (by omega) (by omega)]
      go_enter Try.func50, Try.ntmps50
      go_wp2_with (go_at_call 56; refine (bounds_any _).mono ?_; rintro e w1 ⟨rfl, hB⟩)
      all_goals (go_ret; exact ⟨ret_int (by omega), hB.trans (((Below.refl _ _).alloc hB.size _))⟩)
theorem add_any (a b : Int) (w : World) : Calls Try.prog 35 #[.int .i64 a, .int .i64 b] w fun e w' => e = .returned (.int .i64 (Soft.add a b)) ∧ Below w.heap.size w w' := by
  unfold Soft.add
  have h1 := Soft.clamp_lo a
  have h2 := Soft.clamp_hi a
  have h3 := Soft.clamp_lo b
  have h4 := Soft.clamp_hi b
  have C1 := hid (fun w => clamp_any a w)
  have C2 := hid (fun w => clamp_any b w)
  have C3 := hid (fun w => clamp_any (Soft.clamp a + Soft.clamp b) w)
  generalize Soft.clamp a = x at *
  generalize Soft.clamp b = y at *
  generalize Soft.clamp (x + y) = z at *
  go_enter Try.func35, Try.ntmps35
  go_wp2_with fail
  refine (C1.out _).mono ?_
  rintro e w1 ⟨rfl, hB1⟩
  go_wp2_with fail
  refine (C2.out _).mono ?_
  rintro e w2 ⟨rfl, hB2⟩
  go_wp2_with fail
  refine (C3.out _).mono ?_
  rintro e w3 ⟨rfl, hB3⟩
  go_wp2
  go_ret
  exact ⟨rfl, below_then (below_then hB1 hB2) hB3⟩
theorem inv_any (v : Int) (w : World) : Calls Try.prog 55 #[.int .i64 v] w fun e w' => e = .returned (.bool (Soft.inv v)) ∧ Below w.heap.size w w' := by
  have C1 := hid (fun w => clamp_any v w)
  have H := hid (show Soft.inv v = (Soft.clamp v != v) from rfl)
  generalize Soft.clamp v = x at *
  go_enter Try.func55, Try.ntmps55
  go_wp2_with (go_at_call 50; refine (C1.out _).mono ?_; rintro e w1 ⟨rfl, hB⟩)
  go_ret
  exact ⟨ret_bool H.out.symm, hB⟩
theorem listValid_any (w : World) (v : Value) (B : List Int) (hv : Vw w v (B.map (Value.int .i64))) (hl : B.length ≤ 9223372036854775807) :
    Calls Try.prog 49 #[v] w fun e w' => e = .returned (.bool (!Soft.bad B)) ∧ Below w.heap.size w w' := by
  have H := lcontains_any w v (B.map (Value.int .i64)) hv (by simpa using hl) 55 #[] (enters_of Try.func55 (by kernel_rfl) rfl) (fun i => Soft.inv (B.getD i 0))
    (fun i hi W _ => by
      have hi' : i < B.length := by simpa using hi
      have e : (B.map (Value.int .i64))[i] = Value.int .i64 (B.getD i 0) := by simp [List.getD, hi']
      rw [e]
      exact inv_any _ _)
  rw [List.length_map, Soft.bad_eq] at H
  have HH := hid H
  clear H hv
  generalize Soft.bad B = x at *
  go_enter Try.func49, Try.ntmps49
  go_wp2_with (go_at_call 54; refine HH.out.mono ?_; rintro e w1 ⟨rfl, hB⟩)
  go_ret
  exact ⟨rfl, hB⟩
theorem valid_any (w : World) (v : Value) (B : List Int) (hv : Vw w v (B.map (Value.int .i64))) (hl : B.length ≤ 9223372036854775807) :
    Calls Try.prog 32 #[v] w fun e w' => e = .returned (.bool (!Soft.bad B)) ∧ Below w.heap.size w w' := by
  have HH := hid (listValid_any w v B hv hl)
  obtain ⟨a, c, rfl, _⟩ := hv
  rw [List.length_map] at HH ⊢
  generalize Soft.bad B = x at *
  have hfd : ∀ w : World, (Instr.field 82 (.agg #[.slice a B.length c]) 0).run Try.prog w = .ok (.slice a B.length c) w := fun _ => by kernel_rfl
  go_enter Try.func32, Try.ntmps32
  go_wp2_with (go_at_call 49; refine HH.out.mono ?_; rintro e w1 ⟨rfl, hB⟩)
  go_ret
  exact ⟨rfl, hB⟩
end Go.Proofs.Ytpnmfnjpbhjddaa
/- append of a whole slice to a slice of one's own. -/
namespace Go.Proofs.Ytpnmfnjpbhjddaa
open Go.RowKit
section app
variable {P : Program}
theorem run_append_none0 {w : World} (base : Nat) (t ty e : TypeId) (i : TypeInfo) (size : Nat) (c : Nat) (ht : P.underlying t = some (.slice e)) (hi : P.info? e = some i)
    (v : Value) (n : Nat) (xs : List Value) (hown : w.ownsRow base e size v n xs) :
    (Builtin.append_ #[t, t] ty #[v, .slice none 0 c]).run P w = .ok v w := by
  rcases hown.2 with ⟨rfl, rfl⟩ | ⟨g, cap, cur, rfl, _, _, hnc, _⟩
  · simp [Builtin.append_, run_underlying ht, sizeOf, typeInfo, hi, Builtin.lenOf, Builtin.firstCells]
  · simp [Builtin.append_, run_underlying ht, sizeOf, typeInfo, hi, Builtin.lenOf, Builtin.firstCells, hnc, storeCells]
theorem exec_append_list {o : Oper} {a : Act} {w : World} {t e : TypeId} {bytes : Nat} {z : Value} (E : Elem1 P t e bytes z) (s x : Operand)
    (ho : o.op = .call { callee := .builtin .append, args := #[s, x], argTypes := #[t, t] })
    (base : Nat) (v : Value) (xs : List Value) (hs : a.eval s = v) (hown : OwnL w base e v xs) (vx : Value) (ys : List Value) (hx : a.eval x = vx) (hy : Vw w vx ys) (h1 : ∀ u ∈ ys, u.oneCell' = true)
    (hlen : (xs.length + ys.length) * bytes ≤ 140737488355328) (hmax : xs.length + ys.length ≤ 9223372036854775807) (hbase : base ≤ w.heap.size) :
    ∃ v' w', (execOp a.eval o).run P w = .ok (.value v') w' ∧ OwnL w' base e v' (xs ++ ys) ∧ Fr (fun k => v.ownBlock = some k) w w' := by
  obtain ⟨i, hi, hz, hsz, hby⟩ := E.info
  have hzs : z.cells.size = 1 := by rw [E.one]; rfl
  obtain ⟨ad, c, rfl, hcell⟩ := hy
  cases ad with
  | none =>
    have hy0 : ys = [] := by
      cases ys with
      | nil => rfl
      | cons u l => obtain ⟨b, off, h, _⟩ := hcell 0 (by simp); cases h
    subst hy0
    have hr := run_append_none0 (P := P) base t o.type e i 1 c E.slice hi v xs.length xs hown
    refine ⟨v, w, ?_, by simpa using hown, Fr.refl _ _⟩
    unfold execOp
    simp only [ho, resolve, invoke, builtin, Sem.run_bind, Sem.run_pure, Result.andThen_ok, List.map_toArray, List.map_cons, List.map_nil, hs, hx, List.length_nil, hr]
  | some ad =>
    obtain ⟨v', w', hr, h2, h3, h4⟩ := run_append_own (P := P) w base t o.type e i z 1 bytes E.slice hi hz hsz hby hzs (by decide) v xs.length xs hown
      ad ys.length c ys (by simp) (by
        intro j u hj
        obtain ⟨hj1, rfl⟩ := List.getElem?_eq_some_iff.1 hj
        obtain ⟨b, off, h, hc⟩ := hcell j hj1
        cases h
        have e : (⟨b, off, none⟩ : Addr).add j = ⟨b, off + j, none⟩ := by
          unfold Addr.add
          by_cases hj0 : j = 0
          · subst hj0; simp
          · simp [hj0]
        rw [e]; exact hc) h1 (by unfold maxLen; omega) hlen hbase
    refine ⟨v', w', ?_, ?_, Fr.of_grownBy h3⟩
    · unfold execOp
      simp only [ho, resolve, invoke, builtin, Sem.run_bind, Sem.run_pure, Result.andThen_ok, List.map_toArray, List.map_cons, List.map_nil, hs, hx, hr]
    · unfold OwnL
      simpa using h2
theorem wpList_append_list {ops : Array Oper} {rest : List Oper} {o : Oper} {a : Act} {w : World} {Q : Exit → Act → World → Prop} (hgd : o.guard = none) {t e : TypeId} {bytes : Nat} {z : Value} (E : Elem1 P t e bytes z) (s x : Operand)
    (ho : o.op = .call { callee := .builtin .append, args := #[s, x], argTypes := #[t, t] })
    (base : Nat) (v : Value) (xs : List Value) (hs : a.eval s = v) (hown : OwnL w base e v xs) (vx : Value) (ys : List Value) (hx : a.eval x = vx) (hy : Vw w vx ys) (h1 : ∀ u ∈ ys, u.oneCell' = true)
    (hlen : (xs.length + ys.length) * bytes ≤ 140737488355328) (hmax : xs.length + ys.length ≤ 9223372036854775807) (hbase : base ≤ w.heap.size)
    (h : ∀ v' w', OwnL w' base e v' (xs ++ ys) → Fr (fun k => v.ownBlock = some k) w w' → wpList P ops Q rest (a.put o.dst v') w') :
    wpList P ops Q (o :: rest) a w := by
  obtain ⟨v', w', hr, h1, h2⟩ := exec_append_list E s x ho base v xs hs hown vx ys hx hy h1 hlen hmax hbase
  exact wpList_run_value hgd hr (h v' w' h1 h2)
end app
theorem OwnL.nil' {w : World} {base : Nat} {e : TypeId} {k : IntKind} {L : List Int} (h : L = []) : OwnL w base e (.slice none 0 0) (L.map (Value.int k)) := by
  subst h; exact OwnL.nil _ _ _
theorem OwnL.is_slice {w : World} {base : Nat} {e : TypeId} {v : Value} {xs : List Value} (h : OwnL w base e v xs) : ∃ a c, v = .slice a xs.length c := by
  obtain ⟨a, c, rfl, _⟩ := h.vw
  exact ⟨a, c, rfl⟩
theorem OwnL.shape' {w : World} {base : Nat} {e : TypeId} {a : Option Addr} {n c : Nat} {xs : List Value} (h : OwnL w base e (.slice a n c) xs) (h0 : xs.length ≠ 0) : ∃ g, a = some ⟨g, 0, none⟩ := by
  obtain ⟨g, cap, e⟩ := h.shape xs.length rfl h0
  cases e
  exact ⟨g, rfl⟩
theorem one_ints (k : IntKind) (B : List Int) : ∀ u ∈ B.map (Value.int k), u.oneCell' = true := by
  intro u hu
  obtain ⟨n, _, rfl⟩ := List.mem_map.1 hu
  rfl
end Go.Proofs.Ytpnmfnjpbhjddaa
/- A function whose errors leave by one label: a scope with jumps forward. -/
namespace Go.Proofs.Ytpnmfnjpbhjddaa
open Go.RowKit
section
variable {P : Program} {a : Act} {w : World} {Q : Exit → Act → World → Prop}
/-- One jump forward to the label, with a known frame. -/
theorem wp_scope_once {c rest : Code} (l : Nat) (A : Act) (W : World) (hf : findLabel c l = some rest)
    (first : c.wp P (Exit.jump l (fun a' w' => a' = A ∧ w' = W) Q) a w) (pass : rest.wp P (Exit.noGoto Q) A W) : (Code.scope c).wp P Q a w := by
  refine wp_scope_jumps l (fun a' w' => a' = A ∧ w' = W) (fun _ _ => 0) hf first ?_
  rintro a w ⟨rfl, rfl⟩
  refine wp_mono pass ?_
  intro e a' w' h
  cases e with
  | goto _ => exact h.elim
  | normal => exact h
  | exit id => exact h
  | ret => exact h
  | panic ch => exact h
  | outgrown => exact h
/-- A jump forward, in whatever world and frame. -/
theorem wp_scope_fwd {c rest : Code} (l : Nat) (J : Act → World → Prop) (hf : findLabel c l = some rest)
    (first : c.wp P (Exit.jump l J Q) a w) (pass : ∀ A W, J A W → rest.wp P (Exit.noGoto Q) A W) : (Code.scope c).wp P Q a w := by
  refine wp_scope_jumps l J (fun _ _ => 0) hf first ?_
  intro a w h
  refine wp_mono (pass a w h) ?_
  intro e a' w' h
  cases e with
  | goto _ => exact h.elim
  | normal => exact h
  | exit id => exact h
  | ret => exact h
  | panic ch => exact h
  | outgrown => exact h
end
end Go.Proofs.Ytpnmfnjpbhjddaa
/- soft.mapped at int: its contract. -/
namespace Go.Proofs.Ytpnmfnjpbhjddaa
open Go.RowKit Go.Shelf
set_option linter.unusedVariables false
theorem ielem_map : Elem1 Try.prog 22 3 8 (.int .i64 0) := Elem1.mk' Try.underlying22 (by kernel_rfl) rfl
theorem imapped_err (w : World) (e n : Int) (f : Value) (he : e ≠ 0) :
    Calls Try.prog 29 #[.int .i64 e, .int .i64 n, f] w fun r w' => r = .returned (.tuple #[.slice none 0 0, .int .i64 e]) ∧ w = w' := by
  have h1 : ((e : Int) != 0) = true := by simp [he]
  clear he
  go_enter Try.func29, Try.ntmps29
  go_wp2
  refine wp_scope_once 0 { tmps := #[.int .i64 e, .int .i64 n, f, undef, undef, undef, .slice none 0 0, .int .i64 0, .slice none 0 0, undef, .int .i64 e, .bool true, undef, undef, undef, undef, undef, undef, undef, undef, undef, undef, undef, undef, undef, undef, undef, undef, undef, undef], defers := [] } w rfl ?first ?pass
  case first =>
    go_wp2
    go_step3
    exact ⟨rfl, rfl, rfl⟩
  case pass =>
    go_wp2
    rw [Exit.noGoto_ret]
    go_ret2
    exact ⟨rfl, rfl⟩
set_option maxHeartbeats 1000000 in
theorem imapped_ok (w : World) (n : Nat) (F : FuncId) (caps : Array Value) (g : Nat → Int) (hn : n ≤ 17592186044415) (hef : ∀ args w, (callFunc F args).run Try.prog w = .ok (.enter F args) w)
    (hp : ∀ k, k < n → ∀ W, Below w.heap.size w W → Calls Try.prog F (#[.int .i64 k] ++ caps) W fun e w' => e = .returned (.int .i64 (g k)) ∧ Below W.heap.size W w') :
    Calls Try.prog 29 #[.int .i64 0, .int .i64 n, .func (.func F) #[] caps] w fun e w' => (∃ v', e = .returned (.tuple #[v', .int .i64 0]) ∧ Vw w' v' ((Soft.tab g n).map (Value.int .i64))) ∧ Below w.heap.size w w' := by
  have HP := hid hp
  clear hp
  go_enter Try.func29, Try.ntmps29
  go_wp2
  go_step3
  go_wp2
  go_loopw [8, 13] (fun v i wr => ∃ k : Nat, k ≤ n ∧ i = .int .i64 k ∧ OwnL wr w.heap.size 3 v ((Soft.tab g k).map (Value.int .i64)) ∧ Below w.heap.size w wr) (fun _ i _ => n - (intOf i).toNat)
  case atStart => exact ⟨0, Nat.zero_le _, rfl, OwnL.nil _ _ _, Below.refl _ _⟩
  case round =>
    obtain ⟨k, hk, rfl, hown, hB⟩ := hrel
    by_cases hlt : k < n
    · have hcall := hid (HP.out k hlt wr hB)
      have HS := hid (Soft.tab_succ g k)
      have HN := hid (show ((Soft.tab g k).map (Value.int .i64)).length = k by simp [Soft.tab_len])
      go_wp2_with (first
        | (refine hcall.out.mono ?_; rintro e w1 ⟨rfl, hB1⟩; have hown1 := hown.fr (Fr.of_below hB1) (fun g' e => by have := (hown.block e).2; omega); have hB2 := below_then hB hB1; have hsz := hB2.size; clear hown hB hB1)
        | (at_builtin; refine wpList_append_one rfl ielem_map (.tmp 16) (.tmp 20) rfl w.heap.size _ k _ HN.out rfl hown1 _ rfl rfl (by omega) (by omega) hsz ?_; intro g1 cap1 w2 hown2 hf))
      have hB4 := hB2.trans (hf.below hsz (fun i hi e => by have := (hown1.block e).1; omega))
      clear hown1 hf hB2
      go_wp2
      go_roundw
      case rel => exact ⟨k + 1, by omega, by go_num, by rw [HS.out, List.map_append]; exact hown2, hB4⟩
      case measure => simp [intOf]; omega
    · obtain rfl : k = n := by omega
      obtain ⟨a, c, rfl, hc⟩ := hown.vw
      have HV := hid hc
      have HN := hid (show ((Soft.tab g k).map (Value.int .i64)).length = k by simp [Soft.tab_len])
      have hcap : k ≤ c := by
        rcases hown.2 with ⟨h1, h2⟩ | ⟨g', cap', cur, h1, _, _, h2, _⟩
        · rw [HN.out] at h2; omega
        · cases h1; rw [HN.out] at h2; exact h2
      rw [HN.out]
      clear hown hc
      go_wp2
      first
      | go_ret2
      | (rw [Exit.noGoto_ret]; go_ret2)
      exact ⟨⟨.slice a k k, rfl, _, _, by rw [HN.out], HV.out⟩, hB⟩
end Go.Proofs.Ytpnmfnjpbhjddaa
/- soft.mapped at byte: its contract. -/
namespace Go.Proofs.Ytpnmfnjpbhjddaa
open Go.RowKit Go.Shelf
set_option linter.unusedVariables false
theorem belem_map : Elem1 Try.prog 25 5 1 (.int .u8 0) := Elem1.mk' Try.underlying25 (by kernel_rfl) rfl
end Go.Proofs.Ytpnmfnjpbhjddaa
/- slices.ContainsFunc and slices.IndexFunc at []byte,byte: their contracts for a predicate that only computes. -/
namespace Go.Proofs.Ytpnmfnjpbhjddaa
open Go.RowKit Go.Shelf
set_option linter.unusedVariables false

set_option maxHeartbeats 1000000 in
theorem bindex_any (w : World) (v : Value) (vs : List Value) (hv : Vw w v vs) (hl : vs.length ≤ 9223372036854775807) (F : FuncId) (caps : Array Value) (hef : ∀ args w, (callFunc F args).run Try.prog w = .ok (.enter F args) w) (p : Nat → Bool)
    (hp : ∀ i (h : i < vs.length), Calls Try.prog F (#[vs[i]] ++ caps) w fun e w' => e = .returned (.bool (p i)) ∧ w' = w) :
    Calls Try.prog 47 #[v, .func (.func F) #[] caps] w fun e w' => (∃ n : Int, e = .returned (.int .i64 n) ∧ Hid (decide (0 ≤ n) = (List.range vs.length).any p)) ∧ w' = w := by
  have HP := hid hp
  clear hp
  rcases hv.split with ⟨a, c, rfl, rfl⟩ | ⟨b, off, c, rfl, hp0, hc⟩
  · go_enter Try.func47, Try.ntmps47
    go_wp2
    refine wp_loop_rounds 1 ?_
    rw [rounds_succ]
    go_wp2
    go_ret
    exact ⟨⟨-1, rfl, by simp [Hid]⟩, rfl⟩
  · have HC := hid hc
    clear hc hv
    go_enter Try.func47, Try.ntmps47
    go_wp2
    go_loop [8] (fun i => ∃ k : Nat, k ≤ vs.length ∧ i = .int .i64 k ∧ Hid ((List.range k).any p = false)) (fun i => vs.length - (intOf i).toNat)
    case atStart => exact ⟨0, Nat.zero_le _, rfl, by simp [Hid]⟩
    case round =>
      obtain ⟨k, hk, rfl, hno⟩ := hrel
      by_cases hlt : k < vs.length
      · have hck := HC.out k hlt
        have hcall := HP.out k hlt
        obtain ⟨x, hx⟩ : ∃ x, x = vs[k] := ⟨_, rfl⟩
        rw [← hx] at hck hcall
        clear hx
        cases hpk : p k with
        | true =>
          rw [hpk] at hcall
          have HK := hid hpk
          clear hpk
          go_wp2_with (refine hcall.mono ?_; rintro e w' ⟨rfl, rfl⟩)
          go_ret
          refine ⟨⟨k, rfl, ?_⟩, rfl⟩
          rw [Hid, List.any_eq_true.2 ⟨k, by simpa using hlt, HK.out⟩]; simp
        | false =>
          rw [hpk] at hcall
          have HK := hid hpk
          clear hpk
          go_wp2_with (refine hcall.mono ?_; rintro e w' ⟨rfl, rfl⟩)
          go_round
          case rel => exact ⟨k + 1, by omega, by go_num, by rw [Hid, List.range_succ, List.any_append, hno.out]; simp [HK.out]⟩
          case measure => simp [intOf]; omega
      · obtain rfl : k = vs.length := by omega
        go_wp2
        go_ret
        exact ⟨⟨-1, rfl, by rw [Hid, hno.out]; simp⟩, rfl⟩

theorem bcontains_any (w : World) (v : Value) (vs : List Value) (hv : Vw w v vs) (hl : vs.length ≤ 9223372036854775807) (F : FuncId) (caps : Array Value) (hef : ∀ args w, (callFunc F args).run Try.prog w = .ok (.enter F args) w) (p : Nat → Bool)
    (hp : ∀ i (h : i < vs.length), Calls Try.prog F (#[vs[i]] ++ caps) w fun e w' => e = .returned (.bool (p i)) ∧ w' = w) :
    Calls Try.prog 24 #[v, .func (.func F) #[] caps] w fun e w' => e = .returned (.bool ((List.range vs.length).any p)) ∧ w' = w := by
  have HI := hid (bindex_any w v vs hv hl F caps hef p hp)
  have HV := hid hv
  clear hp hv hef
  go_enter Try.func24, Try.ntmps24
  go_wp2_with (go_at_call 47; refine HI.out.mono ?_; rintro e w' ⟨⟨n, rfl, hn⟩, rfl⟩)
  go_ret
  exact ⟨ret_bool hn.out, rfl⟩
end Go.Proofs.Ytpnmfnjpbhjddaa
/- The two shapes of a slice of numbers that can be read. -/
namespace Go.Proofs.Ytpnmfnjpbhjddaa
open Go.RowKit
/-- The two shapes of a slice that can be read. -/
theorem vw_split {w : World} {v : Value} {B : List Int} {k : IntKind} (h : Vw w v (B.map (Value.int k))) :
    (∃ a c, v = .slice a 0 c ∧ B = []) ∨ (∃ b off c, v = .slice (some ⟨b, off, none⟩) B.length c ∧ 0 < B.length ∧ ∀ i, i < B.length → w.cell? ⟨b, off + i, none⟩ = some (.int k (B.getD i 0))) := by
  rcases h.split with ⟨a, c, rfl, h0⟩ | ⟨b, off, c, rfl, hp, hc⟩
  · exact .inl ⟨a, c, rfl, by simpa using h0⟩
  · refine .inr ⟨b, off, c, by simp, by simpa using hp, fun i hi => ?_⟩
    rw [hc i (by simpa using hi)]
    simp [List.getD, hi]

end Go.Proofs.Ytpnmfnjpbhjddaa
/- soft: Sum, Scale, Hard, Ideal. -/
namespace Go.Proofs.Ytpnmfnjpbhjddaa
open Go.RowKit Go.Shelf
set_option linter.unusedVariables false
theorem arg_any (b : Bool) (w : World) : Calls Try.prog 27 #[.bool b] w fun e w' => e = .returned (.int .i64 (if b = true then 0 else 2)) ∧ w = w' := by
  cases b with
  | true =>
    go_enter Try.func27, Try.ntmps27
    go_wp2
    go_ret
    exact ⟨rfl, rfl⟩
  | false =>
    go_enter Try.func27, Try.ntmps27
    go_wp2
    go_ret
    exact ⟨rfl, rfl⟩
theorem binv_any (x : Int) (w : World) : Calls Try.prog 48 #[.int .u8 x] w fun e w' => e = .returned (.bool (Soft.binv x)) ∧ w' = w := by
  unfold Soft.binv
  by_cases h : 1 < x
  · go_enter Try.func48, Try.ntmps48
    go_wp2
    go_ret
    exact ⟨by simp [h], rfl⟩
  · go_enter Try.func48, Try.ntmps48
    go_wp2
    go_ret
    exact ⟨by simp; omega, rfl⟩
theorem binary_any (w : World) (v : Value) (B : List Int) (hv : Vw w v (B.map (Value.int .u8))) (hl : B.length ≤ 9223372036854775807) :
    Calls Try.prog 28 #[v] w fun e w' => e = .returned (.int .i64 (if Soft.bbad B = true then 3 else 0)) ∧ w = w' := by
  have H := bcontains_any w v (B.map (Value.int .u8)) hv (by simpa using hl) 48 #[] (enters_of Try.func48 (by kernel_rfl) rfl) (fun i => Soft.binv (B.getD i 0))
    (fun i hi => by
      have hi' : i < B.length := by simpa using hi
      have e : (B.map (Value.int .u8))[i] = Value.int .u8 (B.getD i 0) := by simp [List.getD, hi']
      rw [e]
      exact binv_any _ _)
  rw [List.length_map, Soft.bbad_eq] at H
  have HH := hid H
  clear H hv
  cases hb : Soft.bbad B with
  | true =>
    rw [hb] at HH
    clear hb
    go_enter Try.func28, Try.ntmps28
    go_wp2_with (go_at_call 24; refine HH.out.mono ?_; rintro e w1 ⟨rfl, rfl⟩)
    go_ret
    exact ⟨rfl, rfl⟩
  | false =>
    rw [hb] at HH
    clear hb
    go_enter Try.func28, Try.ntmps28
    go_wp2_with (go_at_call 24; refine HH.out.mono ?_; rintro e w1 ⟨rfl, rfl⟩)
    go_ret
    exact ⟨rfl, rfl⟩
/-- The first of two error numbers that is not 0. -/
theorem first2_any (w : World) (a b : Int) :
    Calls Try.prog 26 #[.slice (some ⟨w.heap.size, 0, none⟩) 2 2] (w.alloc (.cells #[.int .i64 a, .int .i64 b] 29)) fun e w' => e = .returned (.int .i64 (if a ≠ 0 then a else b)) ∧ w' = w.alloc (.cells #[.int .i64 a, .int .i64 b] 29) := by
  by_cases ha : a = 0
  · subst ha
    rw [if_neg (by simp)]
    by_cases hb : b = 0
    · subst hb
      go_enter Try.func26, Try.ntmps26
      go_wp2
      refine wp_loop_rounds 3 ?_
      rw [rounds_succ]
      go_wp2
      rw [rounds_succ]
      go_wp2
      rw [rounds_succ]
      go_wp2
      go_ret
      exact ⟨rfl, rfl⟩
    · have h1 : (b != 0) = true := by simp [hb]
      clear hb
      go_enter Try.func26, Try.ntmps26
      go_wp2
      refine wp_loop_rounds 2 ?_
      rw [rounds_succ]
      go_wp2
      rw [rounds_succ]
      go_wp2
      go_ret
      exact ⟨rfl, rfl⟩
  · rw [if_pos ha]
    have h1 : (a != 0) = true := by simp [ha]
    clear ha
    go_enter Try.func26, Try.ntmps26
    go_wp2
    refine wp_loop_rounds 1 ?_
    rw [rounds_succ]
    go_wp2
    go_ret
    exact ⟨rfl, rfl⟩

/-- An element of a slice that stands in a variable. -/
theorem vw_at {w : World} {v : Value} {A : List Int} {k : IntKind} (h : Vw w v (A.map (Value.int k))) {j : Nat} (hj : j < A.length) : ∃ b off c, v = .slice (some ⟨b, off, none⟩) A.length c ∧ w.cell? ⟨b, off + j, none⟩ = some (.int k (A.getD j 0)) := by
  rcases vw_split h with ⟨a, c, rfl, rfl⟩ | ⟨b, off, c, rfl, hp, hc⟩
  · simp at hj
  · exact ⟨b, off, c, rfl, hc j hj⟩

theorem mul_bd {x p : Int} (h1 : -127 ≤ x) (h2 : x ≤ 127) (h3 : 0 ≤ p) (h4 : p ≤ 1073741824) : -136365211648 ≤ x * p ∧ x * p ≤ 136365211648 := by
  constructor
  · have := Int.mul_le_mul_of_nonneg_right h1 h3
    omega
  · have := Int.mul_le_mul_of_nonneg_right h2 h3
    omega
theorem ideal1_any (A : List Int) (m : Int) (hm0 : 0 ≤ m) (hm1 : m ≤ 127) (hbad : Soft.bbad A = false) (hwf : ∀ n ∈ A, (Lit.int .u8 n).wf = true) (j : Nat) (hj : j < A.length) (hm : A.length ≤ 9223372036854775807) (va : Value) (pa pm : Nat) (W : World) (ha : W.cell? ⟨pa, 0, none⟩ = some va)
    (hpc : W.cell? ⟨pm, 0, none⟩ = some (.int .i64 m)) (hva : Vw W va (A.map (Value.int .u8))) :
    Calls Try.prog 30 #[.int .i64 j, .pointer (some ⟨pm, 0, none⟩), .pointer (some ⟨pa, 0, none⟩)] W fun e w' => e = .returned (.int .i64 (Soft.idlG A m j)) ∧ Below W.heap.size W w' := by
  obtain ⟨b1, o1, c1, rfl, hc1⟩ := vw_at hva hj
  have hx := Soft.bbad_at hbad hj
  have hx0 := hwf (A.getD j 0) (by simp [List.getD, hj])
  have HG := hid (show Soft.idlG A m j = (if A.getD j 0 = 1 then -m else m) from rfl)
  generalize A.getD j 0 = x at *
  simp [Soft.binv] at hx
  simp [Lit.wf, IntKind.min, IntKind.max, IntKind.signed, IntKind.bits] at hx0
  clear hva hbad hwf
  have hx' : x = 0 ∨ x = 1 := by omega
  have hwm : IntKind.i64.wrap (-m) = -m := IntWalk.i64_in _ (by omega)
  have i0 : ∀ w : World, (Instr.index 61 (.agg #[.int .i64 m, .int .i64 (-m)]) (.int .u8 0)).run Try.prog w = .ok (.int .i64 m) w := fun _ => by kernel_rfl
  have i1 : ∀ w : World, (Instr.index 61 (.agg #[.int .i64 m, .int .i64 (-m)]) (.int .u8 1)).run Try.prog w = .ok (.int .i64 (-m)) w := fun _ => by kernel_rfl
  rcases hx' with rfl | rfl
  · go_enter Try.func30, Try.ntmps30
    go_wp2
    go_quiet (fail)
    go_wp2
    go_ret
    exact ⟨ret_int (by rw [HG.out]; simp), (Fr.drewN (fun _ => False) W _).below (Nat.le_refl _) (fun _ _ h => h)⟩
  · go_enter Try.func30, Try.ntmps30
    go_wp2
    go_quiet (fail)
    go_wp2
    go_ret
    exact ⟨ret_int (by rw [HG.out]; simp), (Fr.drewN (fun _ => False) W _).below (Nat.le_refl _) (fun _ _ h => h)⟩
end Go.Proofs.Ytpnmfnjpbhjddaa
/- soft: Sum, Scale: their contracts. -/
namespace Go.Proofs.Ytpnmfnjpbhjddaa
open Go.RowKit Go.Shelf
set_option linter.unusedVariables false
theorem arg_true (w : World) : Calls Try.prog 27 #[.bool true] w fun e w' => e = .returned (.int .i64 0) ∧ w = w' := arg_any true w
theorem arg_false (w : World) : Calls Try.prog 27 #[.bool false] w fun e w' => e = .returned (.int .i64 2) ∧ w = w' := arg_any false w
theorem two_boxes (w : World) (a b : Obj) : Below w.heap.size w ((w.alloc a).alloc b) := ((Below.refl _ _).alloc (Nat.le_refl _) _).alloc (by simp) _
theorem three_boxes (w : World) (a b c : Obj) : Below w.heap.size w (((w.alloc a).alloc b).alloc c) := (two_boxes w a b).alloc (by simp; omega) _
namespace Soft
theorem sumR_err {A B : List Int} (h : bad A = true ∨ bad B = true ∨ A.length ≠ B.length) : sumR A B = ([], 2) := if_pos h
theorem sumR_ok {A B : List Int} (h1 : bad A = false) (h2 : bad B = false) (h3 : A.length = B.length) : sumR A B = (tab (sumG A B) A.length, 0) := if_neg (by simp [h1, h2, h3])
theorem sclR_err {A : List Int} {p q : Int} (h : bad A = true ∨ p < 0 ∨ 1073741824 < p ∨ q < 1 ∨ 1073741824 < q) : sclR A p q = ([], 2) := if_pos h
theorem sclR_ok {A : List Int} {p q : Int} (h1 : bad A = false) (h2 : 0 ≤ p) (h3 : p ≤ 1073741824) (h4 : 1 ≤ q) (h5 : q ≤ 1073741824) : sclR A p q = (tab (sclG A p q) A.length, 0) := if_neg (by simp [h1]; omega)
theorem hardR_err {A : List Int} (h : bad A = true) : hardR A = ([], 2) := if_pos h
theorem hardR_ok {A : List Int} (h1 : bad A = false) : hardR A = (tab (hardG A) A.length, 0) := if_neg (by simp [h1])
end Soft
end Go.Proofs.Ytpnmfnjpbhjddaa
/- append of one element to a slice of one's own, as a step of a region that draws its order. -/
namespace Go.Proofs.Ytpnmfnjpbhjddaa
open Go.RowKit
section app
variable {P : Program}
theorem step_append_one {ops : Array Oper} {o : Oper} {a : Act} {w : World} {K : Act → World → Prop} {Q : Exit → Act → World → Prop} {E' : Prop} (hg : o.guard = none) {t e : TypeId} {bytes : Nat} {z : Value} (E : Elem1 P t e bytes z) (s x : Operand)
    (ho : o.op = .call { callee := .builtin .append, args := #[s, x], argTypes := #[t, t] })
    (base : Nat) (v : Value) (n : Nat) (xs : List Value) (hn : xs.length = n) (hs : a.eval s = v) (hown : OwnL w base e v xs) (u : Value) (hu : u.oneCell' = true)
    (hx : a.eval x = .slice (some ⟨w.heap.size, 0, none⟩) 1 1) (hlen : (n + 1) * bytes ≤ 140737488355328) (hmax : n + 1 ≤ 9223372036854775807) (hbase : base ≤ w.heap.size)
    (hK : ∀ g cap w', OwnL w' base e (.slice (some ⟨g, 0, none⟩) (n + 1) cap) (xs ++ [u]) → Fr (fun k => v.ownBlock = some k) w w' → K (a.put o.dst (.slice (some ⟨g, 0, none⟩) (n + 1) cap)) w') :
    if Region.wanted o (yielded ops a.tmps) = true then Oper.wp P o a (w.alloc (.cells #[u] e)) K Q else E' := by
  have hw : Region.wanted o (yielded ops a.tmps) = true := by simp [Region.wanted, hg]
  rw [if_pos hw]
  subst hn
  obtain ⟨g, cap, w', hr, h1, h2⟩ := exec_append_one E s x ho base v xs hs hown u hu hx hlen hmax hbase
  unfold Oper.wp
  rw [hr]
  exact hK g cap w' h1 h2
end app
end Go.Proofs.Ytpnmfnjpbhjddaa
/- userplaneref11: Valid, Binary, Sum, Scale, Hard, Ideal. -/
namespace Go.Proofs.Ytpnmfnjpbhjddaa
open Go.RowKit Go.Shelf
set_option linter.unusedVariables false
theorem refValid_any (w : World) (v : Value) (A : List Int) (hv : Vw w v (A.map (Value.int .i64))) (hl : A.length ≤ 9223372036854775807) :
    Calls Try.prog 36 #[v] w fun e w' => e = .returned (.bool (!Soft.bad A)) ∧ w = w' := by
  rcases vw_split hv with ⟨a, c, rfl, rfl⟩ | ⟨b, off, c, rfl, hp, hc⟩
  · clear hv
    go_enter Try.func36, Try.ntmps36
    go_wp2
    refine wp_loop_rounds 1 ?_
    rw [rounds_succ]
    go_wp2
    go_ret
    exact ⟨rfl, rfl⟩
  · have HC := hid hc
    clear hv hc
    go_enter Try.func36, Try.ntmps36
    go_wp2
    go_loop [3] (fun i => ∃ k : Nat, k ≤ A.length ∧ i = .int .i64 k ∧ Hid (∀ j, j < k → Soft.inv (A.getD j 0) = false)) (fun i => A.length - (intOf i).toNat)
    case atStart => exact ⟨0, Nat.zero_le _, rfl, fun j hj => absurd hj (Nat.not_lt_zero _)⟩
    case round =>
      obtain ⟨k, hk, rfl, hno⟩ := hrel
      by_cases hlt : k < A.length
      · have hck := HC.out k hlt
        have HI := hid (show ∀ h : Soft.inv (A.getD k 0) = true, Soft.bad A = true from fun h => Soft.bad_of hlt h)
        have HX := hid (show ∀ x, x = A.getD k 0 → x = A.getD k 0 from fun x h => h)
        obtain ⟨x, hx⟩ : ∃ x, x = A.getD k 0 := ⟨_, rfl⟩
        rw [← hx] at hck HI
        have HXk := hid hx
        clear hx HX
        by_cases h1 : 127 < x
        · go_wp2
          go_ret
          exact ⟨ret_bool (by rw [HI.out (Soft.inv_of (.inl h1))]; rfl), rfl⟩
        · by_cases h2 : x < -127
          · go_wp2
            go_ret
            exact ⟨ret_bool (by rw [HI.out (Soft.inv_of (.inr h2))]; rfl), rfl⟩
          · go_wp2
            go_round
            case rel =>
              refine ⟨k + 1, by omega, by go_num, fun j hj => ?_⟩
              by_cases hjk : j = k
              · subst hjk; rw [← HXk.out]; exact Soft.inv_in (by omega) (by omega)
              · exact hno.out j (by omega)
            case measure => simp [intOf]; omega
      · obtain rfl : k = A.length := by omega
        go_wp2
        go_ret
        exact ⟨ret_bool (by rw [Soft.bad_no hno.out]; rfl), rfl⟩
theorem refBinary_any (w : World) (v : Value) (A : List Int) (hv : Vw w v (A.map (Value.int .u8))) (hl : A.length ≤ 9223372036854775807) :
    Calls Try.prog 37 #[v] w fun e w' => e = .returned (.bool (!Soft.bbad A)) ∧ w = w' := by
  rcases vw_split hv with ⟨a, c, rfl, rfl⟩ | ⟨b, off, c, rfl, hp, hc⟩
  · clear hv
    go_enter Try.func37, Try.ntmps37
    go_wp2
    refine wp_loop_rounds 1 ?_
    rw [rounds_succ]
    go_wp2
    go_ret
    exact ⟨rfl, rfl⟩
  · have HC := hid hc
    clear hv hc
    go_enter Try.func37, Try.ntmps37
    go_wp2
    go_loop [3] (fun i => ∃ k : Nat, k ≤ A.length ∧ i = .int .i64 k ∧ Hid (∀ j, j < k → Soft.binv (A.getD j 0) = false)) (fun i => A.length - (intOf i).toNat)
    case atStart => exact ⟨0, Nat.zero_le _, rfl, fun j hj => absurd hj (Nat.not_lt_zero _)⟩
    case round =>
      obtain ⟨k, hk, rfl, hno⟩ := hrel
      by_cases hlt : k < A.length
      · have hck := HC.out k hlt
        have HI := hid (show ∀ h : Soft.binv (A.getD k 0) = true, Soft.bbad A = true from fun h => Soft.bbad_of hlt h)
        obtain ⟨x, hx⟩ : ∃ x, x = A.getD k 0 := ⟨_, rfl⟩
        rw [← hx] at hck HI
        have HXk := hid hx
        clear hx
        by_cases h1 : 1 < x
        · go_wp2
          go_ret
          exact ⟨ret_bool (by rw [HI.out (by simp [Soft.binv, h1])]; rfl), rfl⟩
        · go_wp2
          go_round
          case rel =>
            refine ⟨k + 1, by omega, by go_num, fun j hj => ?_⟩
            by_cases hjk : j = k
            · subst hjk; rw [← HXk.out]; simp [Soft.binv]; omega
            · exact hno.out j (by omega)
          case measure => simp [intOf]; omega
      · obtain rfl : k = A.length := by omega
        go_wp2
        go_ret
        exact ⟨ret_bool (by rw [Soft.bbad_no hno.out]; rfl), rfl⟩
end Go.Proofs.Ytpnmfnjpbhjddaa
/- userplaneref11: Scale, Hard, Ideal. -/
namespace Go.Proofs.Ytpnmfnjpbhjddaa
open Go.RowKit Go.Shelf
set_option linter.unusedVariables false
namespace Soft
theorem idlR_arg {B : List Int} {m : Int} (h : m < 0 ∨ 127 < m) : idlR B m = ([], 2) := if_pos h
theorem idlR_bit {B : List Int} {m : Int} (h1 : 0 ≤ m) (h2 : m ≤ 127) (h : bbad B = true) : idlR B m = ([], 3) := by rw [idlR, if_neg (by omega), if_pos h]
theorem idlR_ok {B : List Int} {m : Int} (h1 : 0 ≤ m) (h2 : m ≤ 127) (h : bbad B = false) : idlR B m = (tab (idlG B m) B.length, 0) := by rw [idlR, if_neg (by omega), if_neg (by simp [h])]
end Soft
end Go.Proofs.Ytpnmfnjpbhjddaa
/- soft: Scale, Hard, Ideal: their contracts. -/
namespace Go.Proofs.Ytpnmfnjpbhjddaa
open Go.RowKit Go.Shelf
set_option linter.unusedVariables false
end Go.Proofs.Ytpnmfnjpbhjddaa
/- soft.Ideal: its contract. -/
namespace Go.Proofs.Ytpnmfnjpbhjddaa
open Go.RowKit Go.Shelf
set_option linter.unusedVariables false
theorem Calls.flip {P : Program} {f : FuncId} {args : Array Value} {w : World} {v : Value} (h : Calls P f args w fun e w' => e = .returned v ∧ w = w') : Calls P f args w fun e w' => e = .returned v ∧ w' = w := h.mono fun _ _ h => ⟨h.1, h.2.symm⟩
theorem keep2_drew {w W : World} {p q : Addr} {u v : Value} {n : Nat} (h : W.cell? p = some u ∧ W.cell? q = some v ∧ Below w.heap.size w W ∧ n ≤ W.heap.size) :
    W.drew.cell? p = some u ∧ W.drew.cell? q = some v ∧ Below w.heap.size w W.drew ∧ n ≤ W.drew.heap.size :=
  ⟨h.1, h.2.1, h.2.2.1.trans ((Fr.drew (fun _ => False) W).below h.2.2.1.size (fun _ _ h => h)), h.2.2.2⟩
theorem keep2_alloc {w W : World} {p q : Addr} {u v : Value} {n : Nat} (o : Obj) (h : W.cell? p = some u ∧ W.cell? q = some v ∧ Below w.heap.size w W ∧ n ≤ W.heap.size) :
    (W.alloc o).cell? p = some u ∧ (W.alloc o).cell? q = some v ∧ Below w.heap.size w (W.alloc o) ∧ n ≤ (W.alloc o).heap.size :=
  ⟨((Fr.alloc (fun _ => False) W o).cell (World.block_lt_of_cell? _ _ h.1) (fun h => h)).trans h.1, ((Fr.alloc (fun _ => False) W o).cell (World.block_lt_of_cell? _ _ h.2.1) (fun h => h)).trans h.2.1, h.2.2.1.alloc h.2.2.1.size o, by rw [World.size_alloc]; omega⟩
set_option maxHeartbeats 1000000 in
theorem ideal_any (w : World) (va : Value) (A : List Int) (m : Int) (hva : Vw w va (A.map (Value.int .u8))) (hA : A.length ≤ 17592186044415) (hwf : ∀ n ∈ A, (Lit.int .u8 n).wf = true) :
    Calls Try.prog 11 #[va, .int .i64 m] w fun e w' => (∃ v', e = .returned (.tuple #[v', .int .i64 (Soft.idlR A m).2]) ∧ Vw w' v' ((Soft.idlR A m).1.map (Value.int .i64))) ∧ Below w.heap.size w w' := by
  have VA := hid (fun w h => binary_any w va A h (by omega))
  have HA := hid hva
  obtain ⟨aa, ca, rfl, _⟩ := hva
  rw [List.length_map] at VA HA ⊢
  have hS0 : ((w.alloc (.cells #[.slice aa A.length ca] 25)).alloc (.cells #[.int .i64 m] 3)).cell? ⟨w.heap.size, 0, none⟩ = some (.slice aa A.length ca) ∧ ((w.alloc (.cells #[.slice aa A.length ca] 25)).alloc (.cells #[.int .i64 m] 3)).cell? ⟨w.heap.size + 1, 0, none⟩ = some (.int .i64 m) ∧ Below w.heap.size w ((w.alloc (.cells #[.slice aa A.length ca] 25)).alloc (.cells #[.int .i64 m] 3)) ∧ w.heap.size + 2 ≤ ((w.alloc (.cells #[.slice aa A.length ca] 25)).alloc (.cells #[.int .i64 m] 3)).heap.size :=
    ⟨by go_simp, by go_simp, two_boxes w _ _, by simp⟩
  by_cases h1 : m < 0
  · rw [Soft.idlR_arg (.inl h1)]
    have hd0 : decide (0 ≤ m) = false := by simp; omega
    cases hbB : Soft.bbad A with
    | true =>
      rw [hbB] at VA
      clear hbB
      go_enter Try.func11, Try.ntmps11
      go_wp2_with fail
      generalize World.alloc _ _ = W at hS0 ⊢
      obtain ⟨f1, f2, f3, f4⟩ := hS0
      have hBd : Below w.heap.size w W.drew := f3.trans ((Fr.drew (fun _ => False) W).below f3.size (fun _ _ h => h))
      refine wp_region_still_tail 9 (by kernel_rfl) (by kernel_rfl) ?_
      simp only [List.take_succ_cons, List.take_zero, List.drop_succ_cons, List.drop_zero]
      still_step
      still_step
      still_step
      still_step
      still_step
      still_step
      still_call (Calls.flip (arg_false _))
      still_step
      still_call (Calls.flip (VA.out _ (HA.out.below hBd (Nat.le_refl _))))
      refine wpStill_nil ?_
      change wpList _ _ _ _ _ W.drew
      have k4 := keep2_drew ⟨f1, f2, f3, f4⟩
      clear f1 f2 f3 f4 hBd
      generalize W.drew = W2 at k4 ⊢
      obtain ⟨f1, f2, hBd, f4⟩ := k4
      go_wp2_with fail
      refine (first2_any _ _ _).mono ?_
      rintro e w' ⟨rfl, rfl⟩
      have k5 := keep2_alloc (.cells #[.int .i64 2, .int .i64 3] 29) ⟨f1, f2, hBd, f4⟩
      clear f1 f2 hBd f4
      generalize W2.alloc _ = W3 at k5 ⊢
      obtain ⟨f1, f2, hBa, f4⟩ := k5
      go_wp2_with (go_at_call 29; refine (imapped_err _ _ _ _ (by omega)).mono ?_; rintro e w' ⟨rfl, rfl⟩)
      go_ret2
      exact ⟨⟨_, rfl, Vw.nil _ _ _⟩, hBa⟩
    | false =>
      rw [hbB] at VA
      clear hbB
      go_enter Try.func11, Try.ntmps11
      go_wp2_with fail
      generalize World.alloc _ _ = W at hS0 ⊢
      obtain ⟨f1, f2, f3, f4⟩ := hS0
      have hBd : Below w.heap.size w W.drew := f3.trans ((Fr.drew (fun _ => False) W).below f3.size (fun _ _ h => h))
      refine wp_region_still_tail 9 (by kernel_rfl) (by kernel_rfl) ?_
      simp only [List.take_succ_cons, List.take_zero, List.drop_succ_cons, List.drop_zero]
      still_step
      still_step
      still_step
      still_step
      still_step
      still_step
      still_call (Calls.flip (arg_false _))
      still_step
      still_call (Calls.flip (VA.out _ (HA.out.below hBd (Nat.le_refl _))))
      refine wpStill_nil ?_
      change wpList _ _ _ _ _ W.drew
      have k4 := keep2_drew ⟨f1, f2, f3, f4⟩
      clear f1 f2 f3 f4 hBd
      generalize W.drew = W2 at k4 ⊢
      obtain ⟨f1, f2, hBd, f4⟩ := k4
      go_wp2_with fail
      refine (first2_any _ _ _).mono ?_
      rintro e w' ⟨rfl, rfl⟩
      have k5 := keep2_alloc (.cells #[.int .i64 2, .int .i64 0] 29) ⟨f1, f2, hBd, f4⟩
      clear f1 f2 hBd f4
      generalize W2.alloc _ = W3 at k5 ⊢
      obtain ⟨f1, f2, hBa, f4⟩ := k5
      go_wp2_with (go_at_call 29; refine (imapped_err _ _ _ _ (by omega)).mono ?_; rintro e w' ⟨rfl, rfl⟩)
      go_ret2
      exact ⟨⟨_, rfl, Vw.nil _ _ _⟩, hBa⟩
  have hd0 : decide (0 ≤ m) = true := by simp; omega
  by_cases h2 : 127 < m
  · rw [Soft.idlR_arg (.inr h2)]
    have hd : decide (m ≤ 127) = false := by simp; omega
    cases hbB : Soft.bbad A with
    | true =>
      rw [hbB] at VA
      clear hbB
      go_enter Try.func11, Try.ntmps11
      go_wp2_with fail
      generalize World.alloc _ _ = W at hS0 ⊢
      obtain ⟨f1, f2, f3, f4⟩ := hS0
      have hBd : Below w.heap.size w W.drew := f3.trans ((Fr.drew (fun _ => False) W).below f3.size (fun _ _ h => h))
      refine wp_region_still_tail 9 (by kernel_rfl) (by kernel_rfl) ?_
      simp only [List.take_succ_cons, List.take_zero, List.drop_succ_cons, List.drop_zero]
      still_step
      still_step
      still_step
      still_step
      still_step
      still_step
      still_call (Calls.flip (arg_false _))
      still_step
      still_call (Calls.flip (VA.out _ (HA.out.below hBd (Nat.le_refl _))))
      refine wpStill_nil ?_
      change wpList _ _ _ _ _ W.drew
      have k4 := keep2_drew ⟨f1, f2, f3, f4⟩
      clear f1 f2 f3 f4 hBd
      generalize W.drew = W2 at k4 ⊢
      obtain ⟨f1, f2, hBd, f4⟩ := k4
      go_wp2_with fail
      refine (first2_any _ _ _).mono ?_
      rintro e w' ⟨rfl, rfl⟩
      have k5 := keep2_alloc (.cells #[.int .i64 2, .int .i64 3] 29) ⟨f1, f2, hBd, f4⟩
      clear f1 f2 hBd f4
      generalize W2.alloc _ = W3 at k5 ⊢
      obtain ⟨f1, f2, hBa, f4⟩ := k5
      go_wp2_with (go_at_call 29; refine (imapped_err _ _ _ _ (by omega)).mono ?_; rintro e w' ⟨rfl, rfl⟩)
      go_ret2
      exact ⟨⟨_, rfl, Vw.nil _ _ _⟩, hBa⟩
    | false =>
      rw [hbB] at VA
      clear hbB
      go_enter Try.func11, Try.ntmps11
      go_wp2_with fail
      generalize World.alloc _ _ = W at hS0 ⊢
      obtain ⟨f1, f2, f3, f4⟩ := hS0
      have hBd : Below w.heap.size w W.drew := f3.trans ((Fr.drew (fun _ => False) W).below f3.size (fun _ _ h => h))
      refine wp_region_still_tail 9 (by kernel_rfl) (by kernel_rfl) ?_
      simp only [List.take_succ_cons, List.take_zero, List.drop_succ_cons, List.drop_zero]
      still_step
      still_step
      still_step
      still_step
      still_step
      still_step
      still_call (Calls.flip (arg_false _))
      still_step
      still_call (Calls.flip (VA.out _ (HA.out.below hBd (Nat.le_refl _))))
      refine wpStill_nil ?_
      change wpList _ _ _ _ _ W.drew
      have k4 := keep2_drew ⟨f1, f2, f3, f4⟩
      clear f1 f2 f3 f4 hBd
      generalize W.drew = W2 at k4 ⊢
      obtain ⟨f1, f2, hBd, f4⟩ := k4
      go_wp2_with fail
      refine (first2_any _ _ _).mono ?_
      rintro e w' ⟨rfl, rfl⟩
      have k5 := keep2_alloc (.cells #[.int .i64 2, .int .i64 0] 29) ⟨f1, f2, hBd, f4⟩
      clear f1 f2 hBd f4
      generalize W2.alloc _ = W3 at k5 ⊢
      obtain ⟨f1, f2, hBa, f4⟩ := k5
      go_wp2_with (go_at_call 29; refine (imapped_err _ _ _ _ (by omega)).mono ?_; rintro e w' ⟨rfl, rfl⟩)
      go_ret2
      exact ⟨⟨_, rfl, Vw.nil _ _ _⟩, hBa⟩
  have hd : decide (m ≤ 127) = true := by simp; omega
  cases hbB : Soft.bbad A with
  | true =>
    rw [Soft.idlR_bit (by omega) (by omega) hbB]
    rw [hbB] at VA
    clear hbB
    go_enter Try.func11, Try.ntmps11
    go_wp2_with fail
    generalize World.alloc _ _ = W at hS0 ⊢
    obtain ⟨f1, f2, f3, f4⟩ := hS0
    have hBd : Below w.heap.size w W.drew := f3.trans ((Fr.drew (fun _ => False) W).below f3.size (fun _ _ h => h))
    refine wp_region_still_tail 9 (by kernel_rfl) (by kernel_rfl) ?_
    simp only [List.take_succ_cons, List.take_zero, List.drop_succ_cons, List.drop_zero]
    still_step
    still_step
    still_step
    still_step
    still_step
    still_step
    still_call (Calls.flip (arg_true _))
    still_step
    still_call (Calls.flip (VA.out _ (HA.out.below hBd (Nat.le_refl _))))
    refine wpStill_nil ?_
    change wpList _ _ _ _ _ W.drew
    have k4 := keep2_drew ⟨f1, f2, f3, f4⟩
    clear f1 f2 f3 f4 hBd
    generalize W.drew = W2 at k4 ⊢
    obtain ⟨f1, f2, hBd, f4⟩ := k4
    go_wp2_with fail
    refine (first2_any _ _ _).mono ?_
    rintro e w' ⟨rfl, rfl⟩
    have k5 := keep2_alloc (.cells #[.int .i64 0, .int .i64 3] 29) ⟨f1, f2, hBd, f4⟩
    clear f1 f2 hBd f4
    generalize W2.alloc _ = W3 at k5 ⊢
    obtain ⟨f1, f2, hBa, f4⟩ := k5
    go_wp2_with (go_at_call 29; refine (imapped_err _ _ _ _ (by omega)).mono ?_; rintro e w' ⟨rfl, rfl⟩)
    go_ret2
    exact ⟨⟨_, rfl, Vw.nil _ _ _⟩, hBa⟩
  | false =>
    rw [Soft.idlR_ok (by omega) (by omega) hbB]
    rw [hbB] at VA
    have HbB := hid hbB
    have HW := hid hwf
    clear hbB hwf
    have HP := hid (fun w2 (f1 : w2.cell? ⟨w.heap.size, 0, none⟩ = some (.slice aa A.length ca)) (f2 : w2.cell? ⟨w.heap.size + 1, 0, none⟩ = some (.int .i64 m)) (hW2 : Below w.heap.size w w2) (hs2 : w.heap.size + 2 ≤ w2.heap.size) => show ∀ k, k < A.length → ∀ W, Below w2.heap.size w2 W → Calls Try.prog 30 (#[.int .i64 k] ++ #[.pointer (some ⟨w.heap.size + 1, 0, none⟩), .pointer (some ⟨w.heap.size, 0, none⟩)]) W (fun e w' => e = .returned (.int .i64 (Soft.idlG A m k)) ∧ Below W.heap.size W w') from fun k hk W hW => ideal1_any A m (by omega) (by omega) HbB.out HW.out k hk (by omega) _ w.heap.size (w.heap.size + 1) W ((hW.cell (p := ⟨w.heap.size, 0, none⟩) (by dsimp only; omega)).trans f1) ((hW.cell (p := ⟨w.heap.size + 1, 0, none⟩) (by dsimp only; omega)).trans f2) (HA.out.below (hW2.trans (hW.mono (by omega))) (Nat.le_refl _)))
    go_enter Try.func11, Try.ntmps11
    go_wp2_with fail
    generalize World.alloc _ _ = W at hS0 ⊢
    obtain ⟨f1, f2, f3, f4⟩ := hS0
    have hBd : Below w.heap.size w W.drew := f3.trans ((Fr.drew (fun _ => False) W).below f3.size (fun _ _ h => h))
    refine wp_region_still_tail 9 (by kernel_rfl) (by kernel_rfl) ?_
    simp only [List.take_succ_cons, List.take_zero, List.drop_succ_cons, List.drop_zero]
    still_step
    still_step
    still_step
    still_step
    still_step
    still_step
    still_call (Calls.flip (arg_true _))
    still_step
    still_call (Calls.flip (VA.out _ (HA.out.below hBd (Nat.le_refl _))))
    refine wpStill_nil ?_
    change wpList _ _ _ _ _ W.drew
    have k4 := keep2_drew ⟨f1, f2, f3, f4⟩
    clear f1 f2 f3 f4 hBd
    generalize W.drew = W2 at k4 ⊢
    obtain ⟨f1, f2, hBd, f4⟩ := k4
    go_wp2_with fail
    refine (first2_any _ _ _).mono ?_
    rintro e w' ⟨rfl, rfl⟩
    have k5 := keep2_alloc (.cells #[.int .i64 0, .int .i64 0] 29) ⟨f1, f2, hBd, f4⟩
    clear f1 f2 hBd f4
    generalize W2.alloc _ = W3 at k5 ⊢
    obtain ⟨f1, f2, hBa, f4⟩ := k5
    have HPa := hid (HP.out _ f1 f2 hBa f4)
    go_wp2_with (go_at_call 29; refine (imapped_ok _ A.length 30 #[.pointer (some ⟨w.heap.size + 1, 0, none⟩), .pointer (some ⟨w.heap.size, 0, none⟩)] (Soft.idlG A m) hA (enters_of Try.func30 (by kernel_rfl) rfl) HPa.out).mono ?_; rintro e w3 ⟨⟨v', rfl, hv'⟩, hB3⟩)
    go_ret2
    exact ⟨⟨_, rfl, hv'⟩, hBa.trans (hB3.mono hBa.size)⟩
end Go.Proofs.Ytpnmfnjpbhjddaa
/- soft.Compare, soft.Least and the reference's. -/
namespace Go.Proofs.Ytpnmfnjpbhjddaa
open Go.RowKit Go.Shelf
set_option linter.unusedVariables false
namespace Soft
theorem cmpR_arg {A B : List Int} (h : bad A = true ∨ A.length ≠ B.length) : cmpR A B = (0, 0, 2) := if_pos h
theorem cmpR_bit {A B : List Int} (h1 : bad A = false) (h2 : A.length = B.length) (h : bbad B = true) : cmpR A B = (0, 0, 3) := by rw [cmpR, if_neg (by simp [h1, h2]), if_pos h]
theorem cmpR_ok {A B : List Int} (h1 : bad A = false) (h2 : A.length = B.length) (h : bbad B = false) : cmpR A B = (wrongN A B A.length, unknownN A A.length, 0) := by
  rw [cmpR, if_neg (by simp [h1, h2]), if_neg (by simp [h])]
theorem leastR_err {A : List Int} (h : bad A = true ∨ A.length = 0) : leastR A = (0, 2) := if_pos h
theorem leastR_ok {A : List Int} (h1 : bad A = false) (h2 : A.length ≠ 0) : leastR A = (leastN A A.length, 0) := if_neg (by simp [h1]; intro h; simp [h] at h2)
theorem bit_of {x : Int} (h : binv x = false) (hw : (Lit.int .u8 x).wf = true) : x = 0 ∨ x = 1 := by
  simp [binv] at h
  simp [Lit.wf, IntKind.min, IntKind.max, IntKind.signed, IntKind.bits] at hw
  omega
theorem sgn01 (v : Int) : sgn v = 0 ∨ sgn v = 1 := by unfold sgn; split <;> simp
end Soft
theorem quiet_left {P : Program} {f : FuncId} {args : Array Value} {w : World} {n : Nat} {v : Value}
    (h : Calls P f args (w.drewN n) fun e w' => e = .returned v ∧ w.drewN n = w') : Calls P f args (w.drewN n) fun e w'' => e = .returned v ∧ ∃ m, w'' = w.drewN m :=
  h.mono fun _ _ ⟨he, hm⟩ => ⟨he, n, hm.symm⟩

end Go.Proofs.Ytpnmfnjpbhjddaa
/- userplaneref11.Compare; soft.Least and the reference's. -/
namespace Go.Proofs.Ytpnmfnjpbhjddaa
open Go.RowKit Go.Shelf
set_option linter.unusedVariables false
set_option maxHeartbeats 1000000 in
theorem refCompare_any (w : World) (va vb : Value) (A B : List Int) (hva : Vw w va (A.map (Value.int .i64))) (hvb : Vw w vb (B.map (Value.int .u8))) (hA : A.length ≤ 9223372036854775807) (hB : B.length ≤ 9223372036854775807) (hwf : ∀ n ∈ B, (Lit.int .u8 n).wf = true) :
    Calls Try.prog 13 #[va, vb] w fun e w' => e = .returned (.tuple #[.int .i64 (Soft.cmpR A B).1, .int .i64 (Soft.cmpR A B).2.1, .int .i64 (Soft.cmpR A B).2.2]) ∧ Below w.heap.size w w' := by
  have VA := hid (refValid_any w va A hva hA)
  have VB := hid (refBinary_any w vb B hvb hB)
  have HA := hid hva
  have HB := hid hvb
  obtain ⟨aa, ca, rfl, _⟩ := hva
  obtain ⟨ab, cb, rfl, _⟩ := hvb
  rw [List.length_map] at VA HA ⊢
  rw [List.length_map] at VB HB ⊢
  cases hbA : Soft.bad A with
  | true =>
    rw [Soft.cmpR_arg (.inl hbA)]
    rw [hbA] at VA
    clear hbA
    go_enter Try.func13, Try.ntmps13
    go_wp2_with (go_at_call 36; refine VA.out.mono ?_; rintro e w1 ⟨rfl, rfl⟩)
    go_ret3
    exact ⟨rfl, Below.refl _ _⟩
  | false =>
    rw [hbA] at VA
    by_cases hl : A.length = B.length
    · have hle : ((A.length : Int) != (B.length : Int)) = false := by simp [hl]
      cases hbB : Soft.bbad B with
      | true =>
        rw [Soft.cmpR_bit hbA hl hbB]
        rw [hbB] at VB
        clear hbA hbB hl
        go_enter Try.func13, Try.ntmps13
        go_wp2_with (first
          | (go_at_call 36; refine VA.out.mono ?_; rintro e w1 ⟨rfl, rfl⟩)
          | (go_at_call 37; refine VB.out.mono ?_; rintro e w1 ⟨rfl, rfl⟩))
        go_ret3
        exact ⟨rfl, Below.refl _ _⟩
      | false =>
        rw [Soft.cmpR_ok hbA hl hbB]
        rw [hbB] at VB
        have HL := hid hl
        have HbB := hid hbB
        have HW := hid hwf
        clear hbA hbB hl hwf
        go_enter Try.func13, Try.ntmps13
        go_wp2_with (first
          | (go_at_call 36; refine VA.out.mono ?_; rintro e w1 ⟨rfl, rfl⟩)
          | (go_at_call 37; refine VB.out.mono ?_; rintro e w1 ⟨rfl, rfl⟩))
        go_loopw [7, 8, 9] (fun a b i wr => ∃ k : Nat, k ≤ A.length ∧ i = .int .i64 k ∧ a = .int .i64 (Soft.wrongN A B k) ∧ b = .int .i64 (Soft.unknownN A k) ∧ Hid (∃ m, wr = w.drewN m)) (fun _ _ i _ => A.length - (intOf i).toNat)
        case atStart => exact ⟨0, Nat.zero_le _, rfl, rfl, rfl, ⟨0, rfl⟩⟩
        case round =>
          obtain ⟨k, hk, rfl, rfl, rfl, hD⟩ := hrel
          by_cases hlt : k < A.length
          · have hBr : Below w.heap.size w wr := by obtain ⟨m, rfl⟩ := hD.out; exact below_drewN _ m
            obtain ⟨b1, o1, c1, e1, hx⟩ := vw_at (HA.out.below hBr (Nat.le_refl _)) hlt
            have hlt2 : k < B.length := by have := HL.out; omega
            have hmB : B.length ≤ 9223372036854775807 := hB
            obtain ⟨b2, o2, c2, e2, hy⟩ := vw_at (HB.out.below hBr (Nat.le_refl _)) hlt2
            cases e1; cases e2
            have hybit := Soft.bit_of (Soft.bbad_at HbB.out hlt2) (HW.out (B.getD k 0) (by simp [List.getD, hlt2]))
            have HW1 := hid (show Soft.wrongN A B (k + 1) = Soft.wrongN A B k + (if A.getD k 0 = 0 then 0 else if Soft.sgn (A.getD k 0) = B.getD k 0 then 0 else 1) from rfl)
            have HU1 := hid (show Soft.unknownN A (k + 1) = Soft.unknownN A k + (if A.getD k 0 = 0 then 1 else 0) from rfl)
            have hp := Soft.wrongN_le A B k
            have hq := Soft.unknownN_le A k
            generalize A.getD k 0 = x at *
            generalize B.getD k 0 = y at *
            generalize Soft.wrongN A B k = p at *
            generalize Soft.unknownN A k = q at *
            clear hBr
            by_cases hx0 : x = 0
            · subst hx0
              have HW2 := hid (show Soft.wrongN A B (k + 1) = p by rw [HW1.out]; simp)
              have HU2 := hid (show Soft.unknownN A (k + 1) = q + 1 by rw [HU1.out]; simp)
              clear HW1 HU1 hybit
              go_wp2
              go_roundw
              case rel => exact ⟨k + 1, by omega, by go_num, by rw [HW2.out], by rw [HU2.out]; go_num, hD⟩
              case measure => simp [intOf]; omega
            · have hxb : (x == 0) = false := by simp [hx0]
              by_cases hneg : x < 0
              · have hd : decide (x < 0) = true := by simp [hneg]
                rcases hybit with rfl | rfl
                · have HW2 := hid (show Soft.wrongN A B (k + 1) = p + 1 by rw [HW1.out, if_neg hx0, Soft.sgn, if_pos hneg]; rfl)
                  have HU2 := hid (show Soft.unknownN A (k + 1) = q by rw [HU1.out, if_neg hx0]; rfl)
                  clear HW1 HU1 hx0
                  go_wp2
                  go_quiet (fail)
                  go_wp2
                  go_roundw
                  case rel => exact ⟨k + 1, by omega, by go_num, by rw [HW2.out]; go_num, by rw [HU2.out], by obtain ⟨m, rfl⟩ := hD.out; exact ⟨m + nq, by simp [World.drewN_drewN]⟩⟩
                  case measure => simp [intOf]; omega
                · have HW2 := hid (show Soft.wrongN A B (k + 1) = p by rw [HW1.out, if_neg hx0, Soft.sgn, if_pos hneg]; rfl)
                  have HU2 := hid (show Soft.unknownN A (k + 1) = q by rw [HU1.out, if_neg hx0]; rfl)
                  clear HW1 HU1 hx0
                  go_wp2
                  go_quiet (fail)
                  go_wp2
                  go_roundw
                  case rel => exact ⟨k + 1, by omega, by go_num, by rw [HW2.out], by rw [HU2.out], by obtain ⟨m, rfl⟩ := hD.out; exact ⟨m + nq, by simp [World.drewN_drewN]⟩⟩
                  case measure => simp [intOf]; omega
              · have hd : decide (x < 0) = false := by simp; omega
                rcases hybit with rfl | rfl
                · have HW2 := hid (show Soft.wrongN A B (k + 1) = p by rw [HW1.out, if_neg hx0, Soft.sgn, if_neg hneg]; rfl)
                  have HU2 := hid (show Soft.unknownN A (k + 1) = q by rw [HU1.out, if_neg hx0]; rfl)
                  clear HW1 HU1 hx0
                  go_wp2
                  go_quiet (fail)
                  go_wp2
                  go_roundw
                  case rel => exact ⟨k + 1, by omega, by go_num, by rw [HW2.out], by rw [HU2.out], by obtain ⟨m, rfl⟩ := hD.out; exact ⟨m + nq, by simp [World.drewN_drewN]⟩⟩
                  case measure => simp [intOf]; omega
                · have HW2 := hid (show Soft.wrongN A B (k + 1) = p + 1 by rw [HW1.out, if_neg hx0, Soft.sgn, if_neg hneg]; rfl)
                  have HU2 := hid (show Soft.unknownN A (k + 1) = q by rw [HU1.out, if_neg hx0]; rfl)
                  clear HW1 HU1 hx0
                  go_wp2
                  go_quiet (fail)
                  go_wp2
                  go_roundw
                  case rel => exact ⟨k + 1, by omega, by go_num, by rw [HW2.out]; go_num, by rw [HU2.out], by obtain ⟨m, rfl⟩ := hD.out; exact ⟨m + nq, by simp [World.drewN_drewN]⟩⟩
                  case measure => simp [intOf]; omega
          · obtain rfl : k = A.length := by omega
            go_wp2
            go_ret3
            exact ⟨rfl, by obtain ⟨m, rfl⟩ := hD.out; exact below_drewN _ m⟩
    · rw [Soft.cmpR_arg (.inr hl)]
      have hle : ((A.length : Int) != (B.length : Int)) = true := by simp; omega
      clear hbA hl
      go_enter Try.func13, Try.ntmps13
      go_wp2_with (go_at_call 36; refine VA.out.mono ?_; rintro e w1 ⟨rfl, rfl⟩)
      go_ret3
      exact ⟨rfl, Below.refl _ _⟩

end Go.Proofs.Ytpnmfnjpbhjddaa
/- Laws of saturating sums and ideal soft values, as numbers and lists; no program. -/
namespace Go.Proofs.Ytpnmfnjpbhjddaa
namespace Soft
theorem clamp_mm (v : Int) : clamp v = max (-127) (min v 127) := by unfold clamp; split <;> (try split) <;> omega
theorem add_comm (a b : Int) : add a b = add b a := by unfold add; rw [Int.add_comm]
theorem add_mono {a c : Int} (b : Int) (h : a ≤ c) : add a b ≤ add c b := by
  simp only [add, clamp_mm]; omega
theorem add_zero (a : Int) : add (clamp a) 0 = clamp a := by
  simp only [add, clamp_mm]; omega
theorem add_lo (a b : Int) : -127 ≤ add a b := clamp_lo _
theorem add_hi (a b : Int) : add a b ≤ 127 := clamp_hi _
theorem add_assoc_pos {a b c : Int} (h1 : 0 ≤ a) (h2 : 0 ≤ b) (h3 : 0 ≤ c) : add (add a b) c = add a (add b c) := by
  simp only [add, clamp_mm]; omega
theorem add_assoc_neg {a b c : Int} (h1 : a ≤ 0) (h2 : b ≤ 0) (h3 : c ≤ 0) : add (add a b) c = add a (add b c) := by
  simp only [add, clamp_mm]; omega
theorem tab_inv {g : Nat → Int} {n : Nat} (h : ∀ k, k < n → inv (g k) = false) : bad (tab g n) = false :=
  bad_no fun i hi => by rw [tab_len] at hi; rw [tab_at g hi]; exact h i hi
theorem idl_inv (B : List Int) {m : Int} (h1 : 0 ≤ m) (h2 : m ≤ 127) (k : Nat) : inv (idlG B m k) = false := by
  unfold idlG; split <;> exact inv_in (by omega) (by omega)
theorem getD_ext {A B : List Int} (hl : A.length = B.length) (h : ∀ i, i < A.length → A.getD i 0 = B.getD i 0) : A = B := by
  apply List.ext_getElem hl
  intro i h1 h2
  have := h i h1
  simpa [List.getD, h1, h2] using this
theorem idlG_0 {B : List Int} {m : Int} {k : Nat} (h : B.getD k 0 = 0) : idlG B m k = m := by rw [idlG, h, if_neg (by decide)]
theorem idlG_1 {B : List Int} {m : Int} {k : Nat} (h : B.getD k 0 = 1) : idlG B m k = -m := by rw [idlG, h, if_pos rfl]
theorem sgn_0 {v : Int} (h : 0 ≤ v) : sgn v = 0 := by rw [sgn, if_neg (by omega)]
theorem sgn_1 {v : Int} (h : v < 0) : sgn v = 1 := by rw [sgn, if_pos h]
theorem hard_ideal {B : List Int} {m : Int} (h1 : 1 ≤ m) (h2 : m ≤ 127) (hb : ∀ i, i < B.length → B.getD i 0 = 0 ∨ B.getD i 0 = 1) : hardR (tab (idlG B m) B.length) = (B, 0) := by
  rw [hardR, if_neg (by rw [tab_inv (fun k _ => idl_inv B (by omega) h2 k)]; simp)]
  congr 1
  rw [tab_len]
  refine getD_ext (by rw [tab_len]) fun i hi => ?_
  rw [tab_len] at hi
  rw [tab_at _ hi, hardG, tab_at _ hi]
  rcases hb i hi with h | h
  · rw [idlG_0 h, h, sgn_0 (by omega)]
  · rw [idlG_1 h, h, sgn_1 (by omega)]
theorem wrong_ideal {B : List Int} {m : Int} (h1 : 1 ≤ m) (hb : ∀ i, i < B.length → B.getD i 0 = 0 ∨ B.getD i 0 = 1) : ∀ n, n ≤ B.length → wrongN (tab (idlG B m) B.length) B n = 0 ∧ unknownN (tab (idlG B m) B.length) n = 0
  | 0, _ => ⟨rfl, rfl⟩
  | n + 1, h => by
    have ih := wrong_ideal h1 hb n (by omega)
    have e := tab_at (idlG B m) (show n < B.length by omega)
    unfold wrongN unknownN
    rw [ih.1, ih.2, e]
    rcases hb n (by omega) with h | h
    · have hm : ¬ m = 0 := by omega
      rw [idlG_0 h, h, sgn_0 (by omega), if_neg hm, if_neg hm, if_pos rfl]; exact ⟨rfl, rfl⟩
    · have hm : ¬ -m = 0 := by omega
      rw [idlG_1 h, h, sgn_1 (by omega), if_neg hm, if_neg hm, if_pos rfl]; exact ⟨rfl, rfl⟩
theorem step_0 {x m : Int} (h1 : 1 ≤ m) (h2 : m ≤ 127) (hx : -127 ≤ x ∧ x ≤ 127) : (if add x m = 0 then 0 else if sgn (add x m) = 0 then 0 else 1) ≤ (if x = 0 then 0 else if sgn x = 0 then 0 else 1 : Nat) := by
  have hs : add x m = max (-127) (min (x + m) 127) := by simp only [add, clamp_mm]; omega
  rw [hs]
  by_cases h0 : 0 ≤ x
  · rw [sgn_0 (v := max (-127) (min (x + m) 127)) (by omega)]; simp
  · rw [if_neg (show ¬ x = 0 by omega), sgn_1 (v := x) (by omega), if_neg (show ¬ (1 : Int) = 0 by omega)]
    split
    · omega
    · split <;> omega
theorem step_1 {x m : Int} (h1 : 1 ≤ m) (h2 : m ≤ 127) (hx : -127 ≤ x ∧ x ≤ 127) : (if add x (-m) = 0 then 0 else if sgn (add x (-m)) = 1 then 0 else 1) ≤ (if x = 0 then 0 else if sgn x = 1 then 0 else 1 : Nat) := by
  have hs : add x (-m) = max (-127) (min (x - m) 127) := by simp only [add, clamp_mm]; omega
  rw [hs]
  by_cases h0 : x ≤ 0
  · rw [sgn_1 (v := max (-127) (min (x - m) 127)) (by omega)]; simp
  · rw [if_neg (show ¬ x = 0 by omega), sgn_0 (v := x) (by omega), if_neg (show ¬ (0 : Int) = 1 by omega)]
    split
    · omega
    · split <;> omega
theorem cmp_ideal {B : List Int} {m : Int} (h1 : 1 ≤ m) (h2 : m ≤ 127) (hbb : bbad B = false) (hb : ∀ i, i < B.length → B.getD i 0 = 0 ∨ B.getD i 0 = 1) : cmpR (tab (idlG B m) B.length) B = (0, 0, 0) := by
  rw [cmpR, if_neg (by rw [tab_inv (fun k _ => idl_inv B (by omega) h2 k), tab_len]; simp), if_neg (by simp [hbb]), tab_len]
  have := wrong_ideal h1 hb B.length (Nat.le_refl _)
  rw [this.1, this.2]
theorem add_inv (a b : Int) : inv (add a b) = false := inv_in (add_lo _ _) (add_hi _ _)
theorem wrong_sum {A B : List Int} {m : Int} (h1 : 1 ≤ m) (h2 : m ≤ 127) (hA : bad A = false) (hl : A.length = B.length) (hb : ∀ i, i < B.length → B.getD i 0 = 0 ∨ B.getD i 0 = 1) :
    ∀ n, n ≤ A.length → wrongN (tab (sumG A (tab (idlG B m) B.length)) A.length) B n ≤ wrongN A B n
  | 0, _ => Nat.le_refl _
  | n + 1, h => by
    have ih := wrong_sum h1 h2 hA hl hb n (by omega)
    have e1 := tab_at (sumG A (tab (idlG B m) B.length)) (show n < A.length by omega)
    have e2 := tab_at (idlG B m) (show n < B.length by omega)
    have hx := inv_false (bad_at hA (show n < A.length by omega))
    unfold wrongN
    rw [e1, sumG, e2]
    generalize A.getD n 0 = x at hx ⊢
    refine Nat.add_le_add ih ?_
    rcases hb n (by omega) with h | h
    · rw [idlG_0 h, h]; exact step_0 h1 h2 hx
    · rw [idlG_1 h, h]; exact step_1 h1 h2 hx
theorem sum_ideal {A B : List Int} {m : Int} (h1 : 1 ≤ m) (h2 : m ≤ 127) (hA : bad A = false) (hl : A.length = B.length) : sumR A (tab (idlG B m) B.length) = (tab (sumG A (tab (idlG B m) B.length)) A.length, 0) := by
  rw [sumR, if_neg]
  rw [hA, tab_inv (fun k _ => idl_inv B (by omega) h2 k), tab_len]; simp [hl]
theorem cmp_sum {A B : List Int} {m : Int} (h1 : 1 ≤ m) (h2 : m ≤ 127) (hA : bad A = false) (hl : A.length = B.length) (hbb : bbad B = false) (hb : ∀ i, i < B.length → B.getD i 0 = 0 ∨ B.getD i 0 = 1) :
    ∃ p q p' q', cmpR (tab (sumG A (tab (idlG B m) B.length)) A.length) B = (p, q, 0) ∧ cmpR A B = (p', q', 0) ∧ p ≤ p' := by
  refine ⟨_, unknownN (tab (sumG A (tab (idlG B m) B.length)) A.length) A.length, _, unknownN A A.length, ?_, ?_, wrong_sum h1 h2 hA hl hb A.length (Nat.le_refl _)⟩
  · rw [cmpR, if_neg (by rw [tab_inv (g := sumG A (tab (idlG B m) B.length)) (fun k _ => add_inv _ _), tab_len]; simp [hl]), if_neg (by simp [hbb]), tab_len]
  · rw [cmpR, if_neg (by simp [hA, hl]), if_neg (by simp [hbb])]
end Soft
end Go.Proofs.Ytpnmfnjpbhjddaa

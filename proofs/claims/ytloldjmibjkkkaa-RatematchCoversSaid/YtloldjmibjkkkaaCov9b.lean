/- Rate matching: the number of usable elements of the full buffer; what is seen so far; no program. -/
import Derived.Test.YtloldjmibjkkkaaCov9
namespace Go.Proofs.Ytloldjmibjkkkaa
open Go.RowKit
namespace Rm
theorem ocnt_congr {p q : Nat → Bool} : ∀ n, (∀ j, j < n → p j = q j) → Ord.cnt p n = Ord.cnt q n
  | 0, _ => rfl
  | n + 1, h => by rw [Ord.cnt, Ord.cnt, ocnt_congr n (fun j hj => h j (by omega)), h n (by omega)]
theorem ocnt_not (p : Nat → Bool) : ∀ n, Ord.cnt p n + Ord.cnt (fun j => !p j) n = n
  | 0 => rfl
  | n + 1 => by
    have := ocnt_not p n
    rw [Ord.cnt, Ord.cnt]
    cases p n <;> simp <;> omega
theorem cnt_pred {k f R : Nat} : ∀ n, n ≤ 96 * R → cnt (buf k f R (96 * R)) n = Ord.cnt (fun j => us (fullF k f R j)) n
  | 0, _ => rfl
  | n + 1, h => by rw [cnt, Ord.cnt, cnt_pred n (by omega), buf_at (Nat.le_refl _) (by omega)]
theorem us_el (k f s : Nat) (i : Int) : us (el k f s i) = decide (((if s < 2 then f else 0 : Nat) : Int) ≤ i) := by
  unfold us el
  rw [Bool.eq_iff_iff, decide_eq_true_eq, decide_eq_true_eq]
  by_cases hs : s < 2
  · rw [if_pos hs]
    by_cases h : i < 0 ∨ (s < 2 ∧ i < (f : Int))
    · rw [if_pos h]; omega
    · rw [if_neg h]; omega
  · rw [if_neg hs]
    by_cases h : i < 0 ∨ (s < 2 ∧ i < (f : Int))
    · rw [if_pos h]; omega
    · rw [if_neg h]; omega
/-- One stream. -/
theorem cnt_stream {k f R s : Nat} (hR : k + 4 ≤ 32 * R) (hf : f < k) : Ord.cnt (fun m => us (el k f s (Ord.ordF (k + 4) R (s : Int) m))) (32 * R) = k + 4 - (if s < 2 then f else 0) := by
  have hlo : (if s < 2 then f else 0) ≤ f := by split <;> omega
  have e : ∀ m, us (el k f s (Ord.ordF (k + 4) R (s : Int) m)) = !decide (Ord.idx2 R (s : Int) m < 32 * R - (k + 4) + (if s < 2 then f else 0)) := by
    intro m
    rw [us_el]
    generalize (if s < 2 then f else 0) = lo
    rw [Bool.eq_iff_iff]
    unfold Ord.ordF Ord.matF
    split <;> simp <;> omega
  simp only [e]
  generalize (if s < 2 then f else 0) = lo at *
  have hb := Ord.cnt_below (R := R) (s := (s : Int)) (32 * R - (k + 4) + lo) (by omega)
  have hn := ocnt_not (fun m => decide (Ord.idx2 R (s : Int) m < 32 * R - (k + 4) + lo)) (32 * R)
  omega
theorem cnt_two {p : Nat → Bool} {A : Nat} : ∀ m, Ord.cnt p (A + 2 * m) = Ord.cnt p A + Ord.cnt (fun i => p (A + 2 * i)) m + Ord.cnt (fun i => p (A + 2 * i + 1)) m
  | 0 => rfl
  | m + 1 => by
    rw [show A + 2 * (m + 1) = (A + 2 * m + 1) + 1 by omega, Ord.cnt, Ord.cnt, cnt_two m, Ord.cnt, Ord.cnt]
    omega
theorem cnt_full {k f R : Nat} (hR : k + 4 ≤ 32 * R) (hf : f < k) : cnt (buf k f R (96 * R)) (96 * R) = 3 * (k + 4) - 2 * f := by
  have h0 := cnt_stream (f := f) (s := 0) hR hf
  have h1 := cnt_stream (f := f) (s := 1) hR hf
  have h2 := cnt_stream (f := f) (s := 2) hR hf
  rw [if_pos (by omega)] at h0 h1
  rw [if_neg (by omega)] at h2
  rw [cnt_pred _ (Nat.le_refl _), show 96 * R = 32 * R + 2 * (32 * R) by omega, cnt_two]
  have e0 : Ord.cnt (fun j => us (fullF k f R j)) (32 * R) = Ord.cnt (fun m => us (el k f 0 (Ord.ordF (k + 4) R ((0 : Nat) : Int) m))) (32 * R) :=
    ocnt_congr _ fun m hm => by rw [fullF, if_pos hm]; rfl
  have e1 : Ord.cnt (fun i => us (fullF k f R (32 * R + 2 * i))) (32 * R) = Ord.cnt (fun m => us (el k f 1 (Ord.ordF (k + 4) R ((1 : Nat) : Int) m))) (32 * R) :=
    ocnt_congr _ fun m hm => by
      rw [fullF, if_neg (by omega), show (32 * R + 2 * m - 32 * R) % 2 = 0 by omega, show (32 * R + 2 * m - 32 * R) / 2 = m by omega]
  have e2 : Ord.cnt (fun i => us (fullF k f R (32 * R + 2 * i + 1))) (32 * R) = Ord.cnt (fun m => us (el k f 2 (Ord.ordF (k + 4) R ((2 : Nat) : Int) m))) (32 * R) :=
    ocnt_congr _ fun m hm => by
      rw [fullF, if_neg (by omega), show (32 * R + 2 * m + 1 - 32 * R) % 2 = 1 by omega, show (32 * R + 2 * m + 1 - 32 * R) / 2 = m by omega]
  rw [e0, e1, e2, h0, h1, h2]
  omega
/-- Whether v is among the first n elements. -/
def met (L : List Int) (n : Nat) (v : Int) : Bool := (List.range n).any fun j => L.getD j 0 == v
def seenB (D : Nat) (L : List Int) (n : Nat) : List Value := (List.range D).map fun (v : Nat) => Value.bool (met L n (v : Int))
theorem seenB_len (D : Nat) (L : List Int) (n : Nat) : (seenB D L n).length = D := by simp [seenB]
theorem seenB_zero (D : Nat) (L : List Int) : seenB D L 0 = List.replicate D (.bool false) := by
  apply List.ext_getElem
  · simp [seenB]
  · intro i h1 h2; simp [seenB, met]
theorem met_succ (L : List Int) (n : Nat) (v : Int) : met L (n + 1) v = (met L n v || (L.getD n 0 == v)) := by simp [met, List.range_succ]
theorem seenB_at {D : Nat} {L : List Int} {n i : Nat} (h : i < D) : (seenB D L n)[i]'(by rw [seenB_len]; exact h) = .bool (met L n (i : Int)) := by simp [seenB]
theorem seenB_miss {D : Nat} {L : List Int} {n : Nat} (h : L.getD n 0 < 0) : seenB D L (n + 1) = seenB D L n := by
  unfold seenB
  apply List.map_congr_left
  intro v _
  rw [met_succ]
  have : (L.getD n 0 == (v : Int)) = false := by rw [beq_eq_false_iff_ne]; omega
  rw [this, Bool.or_false]
theorem seenB_hit {D : Nat} {L : List Int} {n x : Nat} (h : L.getD n 0 = (x : Int)) (hx : x < D) : (seenB D L n).set x (.bool true) = seenB D L (n + 1) := by
  apply List.ext_getElem
  · simp [seenB]
  · intro i h1 h2
    have hi : i < D := by simpa [seenB] using h2
    rw [List.getElem_set, seenB_at hi]
    split
    · rename_i e
      subst e
      rw [seenB_at hi, met_succ, h]; simp
    · rename_i e
      rw [seenB_at hi, met_succ, h]
      have : (((x : Nat) : Int) == (i : Int)) = false := by rw [beq_eq_false_iff_ne]; omega
      rw [this, Bool.or_false]
theorem met_no {k f R S j : Nat} (hR : k + 4 ≤ 32 * R) (hS : S ≤ 96 * R) (hj : j < S) (h : us ((buf k f R S).getD j 0) = true) : met (buf k f R S) j ((buf k f R S).getD j 0) = false := by
  unfold met
  rw [List.any_eq_false]
  intro i hi
  have hi' := List.mem_range.1 hi
  intro e
  rw [beq_iff_eq] at e
  rw [buf_at hS hj] at e h
  rw [buf_at hS (by omega)] at e
  have := full_inj hR (by omega) (by omega) h e.symm
  omega
/-- How often each position below D is among the first n. -/
def oftL (D : Nat) (X : List Int) (n : Nat) : List Int := (List.range D).map fun (v : Nat) => (((X.take n).count (v : Int) : Nat) : Int)
theorem oftL_len (D : Nat) (X : List Int) (n : Nat) : (oftL D X n).length = D := by simp [oftL]
theorem oftL_zero (D : Nat) (X : List Int) : oftL D X 0 = List.replicate D 0 := by
  apply List.ext_getElem
  · simp [oftL]
  · intro i h1 h2; simp [oftL]
theorem oftL_at {D : Nat} {X : List Int} {n i : Nat} (h : i < D) : (oftL D X n).getD i 0 = (((X.take n).count (i : Int) : Nat) : Int) := by simp [oftL, h]
theorem oftL_hit {D : Nat} {X : List Int} {n x : Nat} (hn : n < X.length) (h : X.getD n 0 = (x : Int)) (hx : x < D) : (oftL D X n).set x ((((X.take n).count (x : Int) : Nat) : Int) + 1) = oftL D X (n + 1) := by
  have e : X[n] = (x : Int) := by simpa [List.getD, hn] using h
  apply List.ext_getElem
  · simp [oftL]
  · intro i h1 h2
    have hi : i < D := by simpa [oftL] using h2
    rw [List.getElem_set]
    have ht : (X.take (n + 1)).count (i : Int) = (X.take n).count (i : Int) + (if (x : Int) == (i : Int) then 1 else 0) := by
      rw [List.take_add_one, List.count_append, List.getElem?_eq_getElem hn, e]
      simp [List.count_singleton]
    split
    · rename_i e'
      subst e'
      simp only [oftL, List.getElem_map, List.getElem_range]
      rw [ht]; simp
    · rename_i e'
      simp only [oftL, List.getElem_map, List.getElem_range]
      rw [ht]
      have : (((x : Nat) : Int) == (i : Int)) = false := by rw [beq_eq_false_iff_ne]; omega
      rw [this]; simp
end Rm
end Go.Proofs.Ytloldjmibjkkkaa

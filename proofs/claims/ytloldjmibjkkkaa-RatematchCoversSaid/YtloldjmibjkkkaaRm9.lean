/- Rate matching: the circular buffer, as lists; no program. -/
import Derived.Test.YtloldjmibjkkkaaOrd9
namespace Go.Proofs.Ytloldjmibjkkkaa
open Go.RowKit
namespace Rm
/-- The position of element i of stream s, or -1. -/
def el (k f s : Nat) (i : Int) : Int := if i < 0 ∨ (s < 2 ∧ i < f) then -1 else ((s * (k + 4) : Nat) : Int) + i
theorem el_neg {k f s : Nat} {i : Int} (h : i < 0) : el k f s i = -1 := if_pos (.inl h)
theorem el_fill {k f s : Nat} {i : Int} (h : s < 2) (h2 : i < f) : el k f s i = -1 := if_pos (.inr ⟨h, h2⟩)
theorem el_pos {k f s : Nat} {i : Int} (h : 0 ≤ i) (h2 : s < 2 → (f : Int) ≤ i) : el k f s i = ((s * (k + 4) : Nat) : Int) + i := by
  unfold el; rw [if_neg]; rintro (h' | ⟨h1, h3⟩)
  · omega
  · have := h2 h1; omega
/-- Element j of the full buffer. -/
def fullF (k f R j : Nat) : Int := if j < 32 * R then el k f 0 (Ord.ordF (k + 4) R 0 j) else el k f (1 + (j - 32 * R) % 2) (Ord.ordF (k + 4) R ((1 + (j - 32 * R) % 2 : Nat) : Int) ((j - 32 * R) / 2))
def fullL (k f R : Nat) : List Int := (List.range (96 * R)).map (fullF k f R)
theorem fullL_len (k f R : Nat) : (fullL k f R).length = 96 * R := by simp [fullL]
/-- Whether element j is filled in when stream s has come to element n. -/
def filled (R s n j : Nat) : Bool := if j < 32 * R then (decide (0 < s) || decide (j < n)) else (decide (1 + (j - 32 * R) % 2 < s) || (decide (1 + (j - 32 * R) % 2 = s) && decide ((j - 32 * R) / 2 < n)))
def partL (k f R s n : Nat) : List Int := (List.range (96 * R)).map fun j => if filled R s n j then fullF k f R j else 0
theorem partL_len (k f R s n : Nat) : (partL k f R s n).length = 96 * R := by simp [partL]
theorem partL_zero (k f R : Nat) : partL k f R 0 0 = List.replicate (96 * R) 0 := by
  apply List.ext_getElem
  · simp [partL]
  · intro i h1 h2
    simp [partL, filled]
theorem partL_full (k f R : Nat) : partL k f R 2 (32 * R) = fullL k f R := by
  apply List.ext_getElem
  · simp [partL, fullL]
  · intro i h1 h2
    have hi : i < 96 * R := by simpa [fullL] using h2
    have hf : filled R 2 (32 * R) i = true := by
      unfold filled
      by_cases h : i < 32 * R
      · rw [if_pos h]; simp
      · rw [if_neg h]
        simp only [Bool.or_eq_true, Bool.and_eq_true, decide_eq_true_eq]
        omega
    simp [partL, fullL, hf]
theorem partL_next {k f R s : Nat} (hs : s < 2) : partL k f R s (32 * R) = partL k f R (s + 1) 0 := by
  apply List.ext_getElem
  · simp [partL]
  · intro i h1 h2
    have hi : i < 96 * R := by simpa [partL] using h2
    have hf : filled R s (32 * R) i = filled R (s + 1) 0 i := by
      unfold filled
      by_cases h : i < 32 * R
      · rw [if_pos h, if_pos h]; simp [h]
      · rw [if_neg h, if_neg h, Bool.eq_iff_iff]
        simp only [Bool.or_eq_true, Bool.and_eq_true, decide_eq_true_eq]
        omega
    simp [partL, hf]
theorem partL_set0 (k f R n : Nat) (h : n < 32 * R) : (partL k f R 0 n).set n (el k f 0 (Ord.ordF (k + 4) R 0 n)) = partL k f R 0 (n + 1) := by
  apply List.ext_getElem
  · simp [partL]
  · intro i h1 h2
    rw [List.getElem_set]
    by_cases hin : n = i
    · subst hin
      simp [partL, filled, h, fullF]
    · have hf : filled R 0 n i = filled R 0 (n + 1) i := by
        unfold filled
        by_cases h : i < 32 * R
        · rw [if_pos h, if_pos h, Bool.eq_iff_iff]; simp; omega
        · rw [if_neg h, if_neg h]; simp
      rw [if_neg hin]; simp [partL, hf]
theorem partL_set (k f R s n : Nat) (hs1 : 1 ≤ s) (hs2 : s ≤ 2) (h : n < 32 * R) : (partL k f R s n).set (32 * R + 2 * n + s - 1) (el k f s (Ord.ordF (k + 4) R s n)) = partL k f R s (n + 1) := by
  have e1 : (32 * R + 2 * n + s - 1 - 32 * R) % 2 = s - 1 := by omega
  have e2 : (32 * R + 2 * n + s - 1 - 32 * R) / 2 = n := by omega
  apply List.ext_getElem
  · simp [partL]
  · intro i h1 h2
    have hi : i < 96 * R := by simpa [partL] using h2
    rw [List.getElem_set]
    by_cases hin : 32 * R + 2 * n + s - 1 = i
    · subst hin
      have hf : filled R s (n + 1) (32 * R + 2 * n + s - 1) = true := by
        unfold filled
        rw [if_neg (by omega), e1, e2]
        simp; omega
      rw [if_pos rfl]
      simp only [partL, List.getElem_map, List.getElem_range, hf, if_true, fullF]
      rw [if_neg (by omega), e1, e2, show 1 + (s - 1) = s by omega]
    · have hf : filled R s n i = filled R s (n + 1) i := by
        unfold filled
        by_cases h : i < 32 * R
        · rw [if_pos h, if_pos h, Bool.eq_iff_iff]; simp; omega
        · rw [if_neg h, if_neg h, Bool.eq_iff_iff]
          simp only [Bool.or_eq_true, Bool.and_eq_true, decide_eq_true_eq]
          omega
      rw [if_neg hin]; simp [partL, hf]
/-- The circular buffer. -/
def buf (k f R n : Nat) : List Int := (fullL k f R).take n
theorem buf_len {k f R n : Nat} (h : n ≤ 96 * R) : (buf k f R n).length = n := by simp [buf, fullL_len]; omega
/-- The rows of a block size. -/
def rows (k : Nat) : Nat := (k + 35) / 32
def size (k : Nat) (limit : Int) : Nat := min limit.toNat (96 * rows k)
def valid (k f limit : Int) : Bool := decide (40 ≤ k) && decide (k ≤ 6144) && decide (0 ≤ f) && decide (f < k) && decide (1 ≤ limit)
theorem valid_of {k f limit : Int} (h : valid k f limit = true) : 40 ≤ k ∧ k ≤ 6144 ∧ 0 ≤ f ∧ f < k ∧ 1 ≤ limit := by
  simp [valid] at h; omega
theorem valid_no {k f limit : Int} (h : valid k f limit = false) : k < 40 ∨ 6144 < k ∨ f < 0 ∨ k ≤ f ∨ limit < 1 := by
  simp [valid] at h; omega
end Rm
end Go.Proofs.Ytloldjmibjkkkaa

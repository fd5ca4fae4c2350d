/- The order of an interleaved stream, as lists; no program. -/
import Derived.Test.YtloldjmibjkkkaaSmall9
namespace Go.Proofs.Ytloldjmibjkkkaa
open Go.RowKit
namespace Ord
/-- The element at a matrix index. -/
def matF (N j : Nat) : Int := if j < N then -1 else ((j - N : Nat) : Int)
def matL (N i : Nat) : List Int := (List.range i).map (matF N)
theorem matL_succ (N i : Nat) : matL N (i + 1) = matL N i ++ [matF N i] := by simp [matL, List.range_succ]
theorem matL_len (N i : Nat) : (matL N i).length = i := by simp [matL]
theorem matL_get (N i j : Nat) (h : j < (matL N i).length) : (matL N i)[j] = matF N j := by simp [matL]
/-- The matrix index of element k. -/
def idx (R k : Nat) : Nat := (Cols.perm.getD (k / R) 0).toNat + 32 * (k % R)
def idx2 (R : Nat) (s : Int) (k : Nat) : Nat := if s = 2 then (idx R k + 1) % (32 * R) else idx R k
def ordF (d R : Nat) (s : Int) (k : Nat) : Int := matF (32 * R - d) (idx2 R s k)
def outL (d R : Nat) (s : Int) (n : Nat) : List Int := (List.range n).map (ordF d R s)
theorem outL_succ (d R : Nat) (s : Int) (n : Nat) : outL d R s (n + 1) = outL d R s n ++ [ordF d R s n] := by simp [outL, List.range_succ]
theorem outL_len (d R : Nat) (s : Int) (n : Nat) : (outL d R s n).length = n := by simp [outL]
theorem idx_at {R c r : Nat} (hr : r < R) : idx R (c * R + r) = (Cols.perm.getD c 0).toNat + 32 * r := by
  unfold idx
  rw [show (c * R + r) / R = c by rw [Nat.add_comm, Nat.add_mul_div_right _ _ (by omega), Nat.div_eq_of_lt hr, Nat.zero_add], show (c * R + r) % R = r by rw [Nat.add_comm, Nat.add_mul_mod_self_right, Nat.mod_eq_of_lt hr]]
theorem lt_of_both {R c r : Nat} (hc : c < 32) (hr : r < R) : c * R + r < 32 * R := by
  have := Nat.mul_le_mul_right R (show c + 1 ≤ 32 by omega)
  rw [Nat.add_mul] at this; omega
theorem max_mat (N m : Nat) : max ((m : Int) - N) (-1) = matF N m := by
  unfold matF; split <;> omega
theorem idx_lt {R k : Nat} (h : k < 32 * R) : idx R k < 32 * R := by
  have hR : 0 < R := by omega
  have h1 := Cols.perm_bd (k / R) (Nat.div_lt_of_lt_mul (by rw [Nat.mul_comm]; exact h))
  have h2 := Nat.mod_lt k hR
  unfold idx; omega
theorem idx2_lt {R k : Nat} {s : Int} (h : k < 32 * R) : idx2 R s k < 32 * R := by
  unfold idx2; split
  · exact Nat.mod_lt _ (by omega)
  · exact idx_lt h
/-- The result when the elements below k are filled in. -/
def partL (d R : Nat) (s : Int) (k : Nat) : List Int := (List.range (32 * R)).map fun j => if j < k then ordF d R s j else 0
theorem partL_len (d R : Nat) (s : Int) (k : Nat) : (partL d R s k).length = 32 * R := by simp [partL]
theorem partL_zero (d R : Nat) (s : Int) : partL d R s 0 = List.replicate (32 * R) 0 := by
  apply List.ext_getElem
  · simp [partL]
  · intro i h1 h2; simp [partL]
theorem partL_full (d R : Nat) (s : Int) : partL d R s (32 * R) = outL d R s (32 * R) := by
  apply List.ext_getElem
  · simp [partL, outL]
  · intro i h1 h2
    have : i < 32 * R := by simpa [outL] using h2
    simp [partL, outL, this]
theorem partL_set (d R : Nat) (s : Int) (k : Nat) : (partL d R s k).set k (ordF d R s k) = partL d R s (k + 1) := by
  apply List.ext_getElem
  · simp [partL]
  · intro i h1 h2
    rw [List.getElem_set]
    by_cases hik : k = i
    · subst hik; simp [partL]
    · have : i < k ↔ i < k + 1 := by omega
      simp [partL, hik, this]
end Ord
end Go.Proofs.Ytloldjmibjkkkaa

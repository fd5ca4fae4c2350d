/- Points through the channel, plain. -/
import Derived.Test.YtngggknejkcepaaNoi9
namespace Go.Proofs.Ytngggknejkcepaa
namespace Noi
def pl (s : Int) (x : Nat) (P : List (Int × Int)) (k : Nat) : List (Int × Int) := (List.range k).map (ptG s x P)
theorem pl_succ (s : Int) (x : Nat) (P : List (Int × Int)) (k : Nat) : pl s x P (k + 1) = pl s x P k ++ [ptG s x P k] := by simp [pl, List.range_succ]
theorem pl_len (s : Int) (x : Nat) (P : List (Int × Int)) (k : Nat) : (pl s x P k).length = k := by simp [pl]
theorem ptL_len (s : Int) (x : Nat) (P : List (Int × Int)) : (ptL s x P).length ≤ P.length := by unfold ptL; split <;> simp
theorem ptX_pos {x : Nat} (h : 0 < x) (h2 : x < M) (P : List (Int × Int)) : 0 < ptX x P := by unfold ptX; split; exact h; exact stN_pos h h2 _
theorem pbad_eq (P : List (Int × Int)) : ((List.range P.length).any fun i => pinv (P.getD i (0, 0))) = pbad P := by
  rw [Bool.eq_iff_iff, List.any_eq_true]
  unfold pbad
  rw [List.any_eq_true]
  constructor
  · rintro ⟨i, hi, h⟩
    have hi' : i < P.length := by simpa using hi
    exact ⟨P[i], List.getElem_mem hi', by simpa [List.getD, hi'] using h⟩
  · rintro ⟨p, hp, h⟩
    obtain ⟨i, hi, rfl⟩ := List.getElem_of_mem hp
    exact ⟨i, by simpa using hi, by simpa [List.getD, hi] using h⟩
theorem pbad_at {P : List (Int × Int)} (h : pbad P = false) {i : Nat} (hi : i < P.length) : pinv (P.getD i (0, 0)) = false := by
  cases hp : pinv (P.getD i (0, 0)) with
  | false => rfl
  | true =>
    rw [← pbad_eq] at h
    have := List.any_eq_false.1 h i (by simpa using hi)
    exact absurd hp this
theorem pinv_in {p : Int × Int} (h : pinv p = false) : -1073741824 ≤ p.1 ∧ p.1 ≤ 1073741824 ∧ -1073741824 ≤ p.2 ∧ p.2 ≤ 1073741824 := by
  simp only [pinv, Bool.or_eq_false_iff, decide_eq_false_iff_not] at h
  omega
end Noi
end Go.Proofs.Ytngggknejkcepaa

/- A shorter selection is a prefix of a longer one. -/
import Derived.Test.YtmbjcpppbgapbaaGri9
namespace Go.Proofs.Ytmbjcpppbgapbaa
namespace Gr
/-- A shorter selection is a prefix of a longer one. -/
theorem sel_pre {p : Nat → Bool} {m n : Nat} (h : m ≤ n) : (sel p m).length ≤ (sel p n).length ∧ ∀ k, k < (sel p m).length → (sel p n).getD k 0 = (sel p m).getD k 0 := by
  obtain ⟨d, rfl⟩ : ∃ d, n = m + d := ⟨n - m, by omega⟩
  clear h
  induction d with
  | zero => exact ⟨Nat.le_refl _, fun _ _ => rfl⟩
  | succ d ih =>
    rw [← Nat.add_assoc]
    cases hp : p (m + d) with
    | false => rw [sel_no hp]; exact ih
    | true =>
      rw [sel_yes hp]
      refine ⟨by simp; omega, fun k hk => ?_⟩
      rw [← ih.2 k hk]
      have := ih.1
      simp [List.getD, List.getElem?_append, show k < (sel p (m + d)).length by omega]
end Gr
end Go.Proofs.Ytmbjcpppbgapbaa

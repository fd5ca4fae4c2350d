/- userplanelaw12.DematchHolds. -/
import Derived.Test.YtpnmfnjpbhjddaaDemL
namespace Go.Proofs.Ytpnmfnjpbhjddaa
open Go.RowKit Go.Shelf
set_option linter.unusedVariables false
theorem law_DematchHolds (w : World) (k f limit seed : Int) (v4 : Value) (R : List Int) (v5 : Value) (S : List Int) (v6 : Value) (M : List Int)
    (w0 : (Lit.int .i64 k).wf = true) (w1 : (Lit.int .i64 f).wf = true) (w2 : (Lit.int .i64 limit).wf = true) (w3 : (Lit.int .i64 seed).wf = true)
    (h4 : IntsIn .i64 w v4 R) (h5 : IntsIn .i64 w v5 S) (h6 : IntsIn .i64 w v6 M) :
    Calls Try.prog 3 #[.int .i64 k, .int .i64 f, .int .i64 limit, .int .i64 seed, v4, v5, v6] w fun e w' => e = .returned (.bool true) ∧ Below w.heap.size w w' := by
  by_cases h : 200 < k ∨ Rm.valid k f limit = false ∨ 6 < R.length ∨ S.length < R.length ∨ M.length < R.length
  · exact holds_out w k f limit seed v4 R v5 S v6 M h4 h5 h6 h
  have hv : Rm.valid k f limit = true := by
    cases hv : Rm.valid k f limit with
    | true => rfl
    | false => exact absurd (.inr (.inl hv)) h
  have hk : ¬ 200 < k := fun e => h (.inl e)
  have g1 : ¬ 6 < R.length := fun e => h (.inr (.inr (.inl e)))
  have g2 : ¬ S.length < R.length := fun e => h (.inr (.inr (.inr (.inl e))))
  have g3 : ¬ M.length < R.length := fun e => h (.inr (.inr (.inr (.inr e))))
  obtain ⟨l1, l2, l3, l4, l5⟩ := Rm.valid_of hv
  obtain ⟨kn, rfl⟩ := Int.eq_ofNat_of_zero_le (show 0 ≤ k by omega)
  obtain ⟨fn, rfl⟩ := Int.eq_ofNat_of_zero_le l3
  exact holds_in w kn fn limit seed v4 R v5 S v6 M h4 h5 h6 (by omega) hv (by omega) (by omega) (by omega)
end Go.Proofs.Ytpnmfnjpbhjddaa

/- gold.Init and userplaneref04.Init. -/
import Derived.Test.YtmiaddcjedjjdaaLib
import Derived.Test.YtmiaddcjedjjdaaProg
namespace Go.Proofs.Ytmiaddcjedjjdaa
open Go.RowKit
set_option linter.unusedVariables false
theorem ret_pair {k : IntKind} {a b : Int} {c : Value} (h : a = b) : Ending.returned (.tuple #[.int k a, c]) = .returned (.tuple #[.int k b, c]) := by rw [h]
/-- What both return. -/
def initR (r s c : Int) : Int × Int := if r < 0 ∨ 65535 < r ∨ s < 0 ∨ 1073741824 ≤ s ∨ c < 0 ∨ 503 < c then (0, 2) else (16384 * r + 512 * (s % 10) + c, 0)
theorem init_any (r s c : Int) (w : World) : Calls Try.prog 12 #[.int .i64 r, .int .i64 s, .int .i64 c] w fun e w' => e = .returned (.tuple #[.int .u32 (initR r s c).1, .int .i64 (initR r s c).2]) ∧ w = w' := by
  unfold initR
  by_cases h1 : r < 0
  · rw [if_pos (by omega)]
    go_enter Try.func12, Try.ntmps12
    go_wp2
    go_ret2
    exact ⟨rfl, rfl⟩
  by_cases h2 : 65535 < r
  · rw [if_pos (by omega)]
    go_enter Try.func12, Try.ntmps12
    go_wp2
    go_ret2
    exact ⟨rfl, rfl⟩
  by_cases h3 : s < 0
  · rw [if_pos (by omega)]
    go_enter Try.func12, Try.ntmps12
    go_wp2
    go_ret2
    exact ⟨rfl, rfl⟩
  by_cases h4 : 1073741824 ≤ s
  · rw [if_pos (by omega)]
    go_enter Try.func12, Try.ntmps12
    go_wp2
    go_ret2
    exact ⟨rfl, rfl⟩
  by_cases h5 : c < 0
  · rw [if_pos (by omega)]
    go_enter Try.func12, Try.ntmps12
    go_wp2
    go_ret2
    exact ⟨rfl, rfl⟩
  by_cases h6 : 503 < c
  · rw [if_pos (by omega)]
    go_enter Try.func12, Try.ntmps12
    go_wp2
    go_ret2
    exact ⟨rfl, rfl⟩
  · rw [if_neg (by omega)]
    obtain ⟨r, rfl⟩ := Int.eq_ofNat_of_zero_le (show 0 ≤ r by omega)
    obtain ⟨s, rfl⟩ := Int.eq_ofNat_of_zero_le (show 0 ≤ s by omega)
    obtain ⟨c, rfl⟩ := Int.eq_ofNat_of_zero_le (show 0 ≤ c by omega)
    go_enter Try.func12, Try.ntmps12
    go_wp2
    go_ret2
    exact ⟨ret_pair (by omega), rfl⟩
theorem refInit_any (r s c : Int) (w : World) : Calls Try.prog 13 #[.int .i64 r, .int .i64 s, .int .i64 c] w fun e w' => e = .returned (.tuple #[.int .u32 (initR r s c).1, .int .i64 (initR r s c).2]) ∧ w = w' := by
  unfold initR
  by_cases h1 : r < 0
  · rw [if_pos (by omega)]
    go_enter Try.func13, Try.ntmps13
    go_wp2
    go_ret2
    exact ⟨rfl, rfl⟩
  by_cases h2 : 65535 < r
  · rw [if_pos (by omega)]
    go_enter Try.func13, Try.ntmps13
    go_wp2
    go_ret2
    exact ⟨rfl, rfl⟩
  by_cases h3 : s < 0
  · rw [if_pos (by omega)]
    go_enter Try.func13, Try.ntmps13
    go_wp2
    go_ret2
    exact ⟨rfl, rfl⟩
  by_cases h4 : 1073741824 ≤ s
  · rw [if_pos (by omega)]
    go_enter Try.func13, Try.ntmps13
    go_wp2
    go_ret2
    exact ⟨rfl, rfl⟩
  by_cases h5 : c < 0
  · rw [if_pos (by omega)]
    go_enter Try.func13, Try.ntmps13
    go_wp2
    go_ret2
    exact ⟨rfl, rfl⟩
  by_cases h6 : 503 < c
  · rw [if_pos (by omega)]
    go_enter Try.func13, Try.ntmps13
    go_wp2
    go_ret2
    exact ⟨rfl, rfl⟩
  · rw [if_neg (by omega)]
    obtain ⟨r, rfl⟩ := Int.eq_ofNat_of_zero_le (show 0 ≤ r by omega)
    obtain ⟨s, rfl⟩ := Int.eq_ofNat_of_zero_le (show 0 ≤ s by omega)
    obtain ⟨c, rfl⟩ := Int.eq_ofNat_of_zero_le (show 0 ≤ c by omega)
    go_enter Try.func13, Try.ntmps13
    go_wp2
    go_ret2
    exact ⟨rfl, rfl⟩
end Go.Proofs.Ytmiaddcjedjjdaa

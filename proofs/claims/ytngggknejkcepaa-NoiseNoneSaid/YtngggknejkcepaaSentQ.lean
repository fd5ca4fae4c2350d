/- noise.sent at points: its errors. -/
import Derived.Test.YtngggknejkcepaaVwA
import Derived.Test.YtngggknejkcepaaApp
import Derived.Test.YtngggknejkcepaaJump
namespace Go.Proofs.Ytngggknejkcepaa
open Go.RowKit Go.Shelf
set_option linter.unusedVariables false
set_option maxHeartbeats 1000000 in
theorem psent_err (w : World) (b x : Nat) (f e s : Int) (hb : NB w b x f e s) (hx : 0 < x) (v by' : Value) (er : Int) :
    Calls Try.prog 48 #[.pointer (some ⟨b, 0, none⟩), v, .bool false, .int .i64 er, by'] w fun r w' => r = .returned (.tuple #[.slice none 0 0, .int .i64 er]) ∧ w = w' := by
  have C := hid (absent_no w b x f e s hb hx)
  clear hb hx
  go_enter Try.func48, Try.ntmps48
  go_wp2
  refine wp_scope_once 0 { tmps := #[.pointer (some ⟨b, 0, none⟩), v, .bool false, .int .i64 er, by', undef, undef, undef, undef, undef, .slice none 0 0, .int .i64 0, .slice none 0 0, undef, undef, .pointer (some ⟨b, 0, none⟩), .bool false, .bool false, .bool true, undef, undef, undef, undef, undef, undef, undef, undef, undef, undef, undef, undef, undef, undef, undef, undef, undef, undef, undef, undef], defers := [] } w rfl ?first ?pass
  case first =>
    go_wp2_with fail
    refine C.out.mono ?_
    rintro r w1 ⟨rfl, rfl⟩
    go_wp2
    go_step3
    exact ⟨rfl, rfl, rfl⟩
  case pass =>
    go_wp2
    rw [Exit.noGoto_ret]
    go_ret2
    exact ⟨rfl, rfl⟩
set_option maxHeartbeats 1000000 in
theorem psent_none (w : World) (n v by' : Value) (fine : Bool) (er : Int) (hC : Calls Try.prog 36 #[n] w fun r w' => r = .returned (.bool true) ∧ w = w') :
    Calls Try.prog 48 #[n, v, .bool fine, .int .i64 er, by'] w fun r w' => r = .returned (.tuple #[.slice none 0 0, .int .i64 1]) ∧ w = w' := by
  have C := hid hC
  clear hC
  go_enter Try.func48, Try.ntmps48
  go_wp2
  refine wp_scope_once 0 { tmps := #[n, v, .bool fine, .int .i64 1, by', undef, undef, undef, undef, undef, .slice none 0 0, .int .i64 0, .slice none 0 0, undef, undef, n, .bool true, undef, undef, undef, undef, undef, undef, undef, undef, undef, undef, undef, undef, undef, undef, undef, undef, undef, undef, undef, undef, undef, undef], defers := [] } w rfl ?first ?pass
  case first =>
    go_wp2_with fail
    refine C.out.mono ?_
    rintro r w1 ⟨rfl, rfl⟩
    go_wp2
    go_step3
    exact ⟨rfl, rfl, rfl⟩
  case pass =>
    go_wp2
    rw [Exit.noGoto_ret]
    go_ret2
    exact ⟨rfl, rfl⟩
end Go.Proofs.Ytngggknejkcepaa

/- userplanelaw11: num, is, works. -/
import Derived.Test.YtmbjcpppbgapbaaSoftF
import Derived.Test.YtmbjcpppbgapbaaSoftI
import Derived.Test.YtmbjcpppbgapbaaSame11
import Derived.Test.YtmbjcpppbgapbaaBstr
namespace Go.Proofs.Ytmbjcpppbgapbaa
open Go.RowKit Go.Shelf
set_option linter.unusedVariables false
theorem num_any (e : Int) (w : World) : Calls Try.prog 18 #[.int .i64 e] w fun r w' => r = .returned (.int .i64 e) ∧ w = w' := by
  go_enter Try.func18, Try.ntmps18
  go_wp2
  go_ret
  exact ⟨rfl, rfl⟩
theorem is_true (w : World) (va vb : Value) (A : List Int) (e : Int) (ha : Vw w va (A.map (Value.int .i64))) (hb : Vw w vb (A.map (Value.int .i64))) (hl : A.length ≤ 9223372036854775807) :
    Calls Try.prog 33 #[va, .int .i64 e, .int .i64 e, vb] w fun r w' => r = .returned (.bool true) ∧ Below w.heap.size w w' := by
  have H := same11_any w va vb A A ha hb hl hl
  rw [decide_eq_true rfl] at H
  have HH := hid H
  have he : (e == e) = true := by simp
  clear H ha hb
  go_enter Try.func33, Try.ntmps33
  go_wp2_with fail
  refine HH.out.mono ?_
  rintro r w1 ⟨rfl, m, rfl⟩
  go_wp2_with (go_at_call 18; refine (num_any _ _).mono ?_; rintro r w2 ⟨rfl, rfl⟩)
  go_ret
  exact ⟨rfl, below_drewN _ m⟩
theorem lit1 (w : World) (a : Value) (e : TypeId) : Vw (w.alloc (.cells #[a] e)) (.slice (some ⟨w.heap.size, 0, none⟩) 1 1) [a] := Vw.lit w #[a] e 1 rfl
end Go.Proofs.Ytmbjcpppbgapbaa

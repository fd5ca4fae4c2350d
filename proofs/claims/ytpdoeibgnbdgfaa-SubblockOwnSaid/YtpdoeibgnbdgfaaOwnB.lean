/- userplaneref03.Own: a copy of a []byte. -/
import Derived.Test.YtpdoeibgnbdgfaaApp
import Derived.Test.YtpdoeibgnbdgfaaProg
namespace Go.Proofs.Ytpdoeibgnbdgfaa
open Go.RowKit
theorem elem_byte' : Elem1 Try.prog 33 5 1 (.int .u8 0) := Elem1.mk' Try.underlying33 (by kernel_rfl) rfl
theorem ownB_any (w : World) (v : Value) (B : List Int) (hv : Vw w v (B.map (Value.int .u8))) (hl : B.length ≤ 140737488355328) :
    Calls Try.prog 23 #[v] w fun e w' => (∃ v', e = .returned v' ∧ OwnL w' w.heap.size 5 v' (B.map (Value.int .u8))) ∧ Below w.heap.size w w' := by
  go_enter Try.func23, Try.ntmps23
  go_wp2_with (at_builtin; refine wpList_append_list rfl elem_byte' (.const (.slice none 0 0)) (.tmp 3) rfl w.heap.size _ [] rfl (OwnL.nil _ _ _) _ _ rfl hv (one_ints _ _) (by simpa using hl) (by simp; omega) (Nat.le_refl _) ?_; intro v' w1 hown1 hf)
  go_ret
  exact ⟨⟨v', rfl, by simpa using hown1⟩, hf.below (Nat.le_refl _) (fun k _ h => by change none = some k at h; cases h)⟩
end Go.Proofs.Ytpdoeibgnbdgfaa

/- userplanelaw17.GridNone. -/
import Derived.Test.YtighnjbcnfnpmaaGriK
namespace Go.Proofs.Ytighnjbcnfnpmaa
open Go.RowKit Go.Shelf
set_option linter.unusedVariables false
attribute [local go_sem ↓] Go.wp_at_zero Go.wp_at_succ
set_option maxHeartbeats 2000000 in
theorem law_GridNone (first blocks : Int) (z : Bool) (wf : (Lit.int .i64 first).wf = true) (wk : (Lit.int .i64 blocks).wf = true) (w : World) :
    Calls Try.prog 9 #[.int .i64 first, .int .i64 blocks, .bool z] w fun e w' => e = .returned (.bool true) ∧ Below w.heap.size w w' := by
  clear wf wk
  cases z with
  | false =>
    have HN : ∀ w, NoGrid w (.pointer none) := fun w W _ => gnone_nil W
    have K1 := hid (fun w => noget_any (HN w) first blocks)
    have K2 := hid (fun w => noput_any (HN w) first blocks (.slice none 0 0))
    have K3 := hid (fun w => noload_any (HN w) (.slice none 0 0))
    have K4 := hid (fun w => noconfig_any (HN w))
    have K5 := hid (fun w => nopoints_any (HN w))
    clear HN
    go_enter Try.func9, Try.ntmps9
    go_wp2_with (first
      | (go_at_call 25; refine (K1.out _).mono ?_; rintro r w' ⟨rfl, rfl⟩)
      | (go_at_call 23; refine (K2.out _).mono ?_; rintro r w' ⟨rfl, rfl⟩)
      | (go_at_call 31; refine (K3.out _).mono ?_; rintro r w' ⟨rfl, rfl⟩)
      | (go_at_call 32; refine (K4.out _).mono ?_; rintro r w1 ⟨rfl, B1⟩)
      | (go_at_call 24; refine (K5.out _).mono ?_; rintro r w' ⟨rfl, rfl⟩)
      | (go_at_call 12; refine (num17_any _ _).mono ?_; rintro r w' ⟨rfl, rfl⟩)
      | (go_at_call 15; refine (works17 _).mono ?_; rintro r w4 ⟨rfl, B⟩))
    go_ret
    exact ⟨rfl, below_then B1 B⟩
  | true =>
    have HN : ∀ W, Below (w.alloc (.cells #[.int .i64 0, .int .i64 0, .int .i64 0, .slice none 0 0] 75)).heap.size (w.alloc (.cells #[.int .i64 0, .int .i64 0, .int .i64 0, .slice none 0 0] 75)) W → NoGrid W (.pointer (some ⟨w.heap.size, 0, none⟩)) := fun W hW V hV =>
      gnone_zero (((Blk.new w _ _).below hW (by simp)).below hV (by have := hW.size; simp at this; omega))
    have HNh := hid HN
    have h0 := hid (HN _ (Below.refl _ _))
    have K1 := hid (noget_any h0.out first blocks)
    have K2 := hid (noput_any h0.out first blocks (.slice none 0 0))
    have K3 := hid (noload_any h0.out (.slice none 0 0))
    have K4 := hid (noconfig_any h0.out)
    have K5 := hid (fun W h => nopoints_any (HNh.out W h))
    clear HN
    go_enter Try.func9, Try.ntmps9
    go_wp2_with (first
      | (go_at_call 25; refine K1.out.mono ?_; rintro r w' ⟨rfl, rfl⟩)
      | (go_at_call 23; refine K2.out.mono ?_; rintro r w' ⟨rfl, rfl⟩)
      | (go_at_call 31; refine K3.out.mono ?_; rintro r w' ⟨rfl, rfl⟩)
      | (go_at_call 32; refine K4.out.mono ?_; rintro r w1 ⟨rfl, B1⟩)
      | (go_at_call 24; refine (K5.out _ B1).mono ?_; rintro r w' ⟨rfl, rfl⟩)
      | (go_at_call 12; refine (num17_any _ _).mono ?_; rintro r w' ⟨rfl, rfl⟩)
      | (go_at_call 15; refine (works17 _).mono ?_; rintro r w4 ⟨rfl, B⟩))
    go_ret
    exact ⟨rfl, below_then (up_alloc B1) B⟩
end Go.Proofs.Ytighnjbcnfnpmaa

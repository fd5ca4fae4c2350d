/- userplanelaw09: walks of the laws on integers. -/
import Derived.Test.YtpdoeibgnbdgfaaKnown9
namespace Go.Proofs.Ytpdoeibgnbdgfaa
open Go.RowKit Go.Shelf

theorem wf64 {x : Int} (h : (Lit.int .i64 x).wf = true) : -9223372036854775808 ≤ x ∧ x ≤ 9223372036854775807 := by
  simpa [Lit.wf, IntKind.min, IntKind.max, IntKind.signed, IntKind.bits] using h

set_option maxHeartbeats 1000000 in
theorem law_SubblockOrders (d s : Int) (wd : (Lit.int .i64 d).wf = true) (ws : (Lit.int .i64 s).wf = true) (w : World) :
    Calls Try.prog 3 #[.int .i64 d, .int .i64 s] w fun e w' => e = .returned (.bool true) ∧ Below w.heap.size w w' := by
  clear wd ws
  by_cases h : d < 1 ∨ 6148 < d ∨ s < 0 ∨ 2 < s
  · have H := hid h
    clear h
    go_enter Try.func3, Try.ntmps3
    go_wp2_with (first
      | (go_at_call 11; refine (order_err _ _ H.out _).mono ?_; rintro e w1 ⟨rfl, hB1⟩)
      | (go_at_call 12; refine (refOrder_err _ _ H.out _).mono ?_; rintro e w2 ⟨rfl, rfl⟩)
      | (go_at_call 13; refine (same_any _ _ _ [] [] (Vw.nil _ _ _) (Vw.nil _ _ _) (by simp) (by simp)).mono ?_; rintro e w3 ⟨rfl, n, rfl⟩)
      | (go_at_call 14; refine (known_true _).mono ?_; rintro e w4 ⟨rfl, hB4⟩))
    go_ret
    exact ⟨rfl, below_then (below_then (below_then hB1 (below_drewN _ n)) hB4) (below_refl _)⟩
  · obtain ⟨d, rfl⟩ := Int.eq_ofNat_of_zero_le (show 0 ≤ d by omega)
    obtain ⟨R, hR⟩ : ∃ R : Nat, R = (d + 31) / 32 := ⟨_, rfl⟩
    have H1 := hid (fun w => order_ok d R s (by omega) (by omega) (by omega) (by omega) (by omega) (by omega) w)
    have H2 := hid (fun w => refOrder_ok d R s (by omega) (by omega) (by omega) (by omega) (by omega) (by omega) w)
    have hlen : (Ord.outL d R s (32 * R)).length ≤ 9223372036854775807 := by rw [Ord.outL_len]; omega
    have HL := hid hlen
    clear hlen hR h
    go_enter Try.func3, Try.ntmps3
    go_wp2_with (first
      | (go_at_call 11; refine (H1.out _).mono ?_; rintro e w1 ⟨v1, rfl, hown1, hB1⟩)
      | (go_at_call 12; refine (H2.out _).mono ?_; rintro e w2 ⟨v2, rfl, hown2, hB2⟩)
      | (go_at_call 13; refine (same_any _ _ _ _ _ (hown1.vw.below hB2 (Nat.le_refl _)) hown2.vw HL.out HL.out).mono ?_; rintro e w3 ⟨rfl, n, rfl⟩)
      | (go_at_call 14; refine (known_true _).mono ?_; rintro e w4 ⟨rfl, hB4⟩))
    go_ret
    exact ⟨rfl, below_then (below_then (below_then hB1 hB2) (below_drewN _ n)) hB4⟩
end Go.Proofs.Ytpdoeibgnbdgfaa

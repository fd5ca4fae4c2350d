/- userplaneref11: Valid, Binary, Sum, Scale, Hard, Ideal. -/
import Derived.Test.YtngggknejkcepaaClamp0
import Derived.Test.YtngggknejkcepaaVw2
import Derived.RegionTactic
import Derived.Deep.QuietTactic
import Derived.BigQuiet
import Derived.IntWalk
import Derived.Test.YtngggknejkcepaaStepApp
import Derived.Deep.RegionHeld3
namespace Go.Proofs.Ytngggknejkcepaa
open Go.RowKit Go.Shelf
set_option linter.unusedVariables false
theorem refValid_any (w : World) (v : Value) (A : List Int) (hv : Vw w v (A.map (Value.int .i64))) (hl : A.length ≤ 9223372036854775807) :
    Calls Try.prog 24 #[v] w fun e w' => e = .returned (.bool (!Soft.bad A)) ∧ w = w' := by
  rcases vw_split hv with ⟨a, c, rfl, rfl⟩ | ⟨b, off, c, rfl, hp, hc⟩
  · clear hv
    go_enter Try.func24, Try.ntmps24
    go_wp2
    refine wp_loop_rounds 1 ?_
    rw [rounds_succ]
    go_wp2
    go_ret
    exact ⟨rfl, rfl⟩
  · have HC := hid hc
    clear hv hc
    go_enter Try.func24, Try.ntmps24
    go_wp2
    go_loop [3] (fun i => ∃ k : Nat, k ≤ A.length ∧ i = .int .i64 k ∧ Hid (∀ j, j < k → Soft.inv (A.getD j 0) = false)) (fun i => A.length - (intOf i).toNat)
    case atStart => exact ⟨0, Nat.zero_le _, rfl, fun j hj => absurd hj (Nat.not_lt_zero _)⟩
    case round =>
      obtain ⟨k, hk, rfl, hno⟩ := hrel
      by_cases hlt : k < A.length
      · have hck := HC.out k hlt
        have HI := hid (show ∀ h : Soft.inv (A.getD k 0) = true, Soft.bad A = true from fun h => Soft.bad_of hlt h)
        have HX := hid (show ∀ x, x = A.getD k 0 → x = A.getD k 0 from fun x h => h)
        obtain ⟨x, hx⟩ : ∃ x, x = A.getD k 0 := ⟨_, rfl⟩
        rw [← hx] at hck HI
        have HXk := hid hx
        clear hx HX
        by_cases h1 : 127 < x
        · go_wp2
          go_ret
          exact ⟨ret_bool (by rw [HI.out (Soft.inv_of (.inl h1))]; rfl), rfl⟩
        · by_cases h2 : x < -127
          · go_wp2
            go_ret
            exact ⟨ret_bool (by rw [HI.out (Soft.inv_of (.inr h2))]; rfl), rfl⟩
          · go_wp2
            go_round
            case rel =>
              refine ⟨k + 1, by omega, by go_num, fun j hj => ?_⟩
              by_cases hjk : j = k
              · subst hjk; rw [← HXk.out]; exact Soft.inv_in (by omega) (by omega)
              · exact hno.out j (by omega)
            case measure => simp [intOf]; omega
      · obtain rfl : k = A.length := by omega
        go_wp2
        go_ret
        exact ⟨ret_bool (by rw [Soft.bad_no hno.out]; rfl), rfl⟩
theorem refBinary_any (w : World) (v : Value) (A : List Int) (hv : Vw w v (A.map (Value.int .u8))) (hl : A.length ≤ 9223372036854775807) :
    Calls Try.prog 35 #[v] w fun e w' => e = .returned (.bool (!Soft.bbad A)) ∧ w = w' := by
  rcases vw_split hv with ⟨a, c, rfl, rfl⟩ | ⟨b, off, c, rfl, hp, hc⟩
  · clear hv
    go_enter Try.func35, Try.ntmps35
    go_wp2
    refine wp_loop_rounds 1 ?_
    rw [rounds_succ]
    go_wp2
    go_ret
    exact ⟨rfl, rfl⟩
  · have HC := hid hc
    clear hv hc
    go_enter Try.func35, Try.ntmps35
    go_wp2
    go_loop [3] (fun i => ∃ k : Nat, k ≤ A.length ∧ i = .int .i64 k ∧ Hid (∀ j, j < k → Soft.binv (A.getD j 0) = false)) (fun i => A.length - (intOf i).toNat)
    case atStart => exact ⟨0, Nat.zero_le _, rfl, fun j hj => absurd hj (Nat.not_lt_zero _)⟩
    case round =>
      obtain ⟨k, hk, rfl, hno⟩ := hrel
      by_cases hlt : k < A.length
      · have hck := HC.out k hlt
        have HI := hid (show ∀ h : Soft.binv (A.getD k 0) = true, Soft.bbad A = true from fun h => Soft.bbad_of hlt h)
        obtain ⟨x, hx⟩ : ∃ x, x = A.getD k 0 := ⟨_, rfl⟩
        rw [← hx] at hck HI
        have HXk := hid hx
        clear hx
        by_cases h1 : 1 < x
        · go_wp2
          go_ret
          exact ⟨ret_bool (by rw [HI.out (by simp [Soft.binv, h1])]; rfl), rfl⟩
        · go_wp2
          go_round
          case rel =>
            refine ⟨k + 1, by omega, by go_num, fun j hj => ?_⟩
            by_cases hjk : j = k
            · subst hjk; rw [← HXk.out]; simp [Soft.binv]; omega
            · exact hno.out j (by omega)
          case measure => simp [intOf]; omega
      · obtain rfl : k = A.length := by omega
        go_wp2
        go_ret
        exact ⟨ret_bool (by rw [Soft.bbad_no hno.out]; rfl), rfl⟩
end Go.Proofs.Ytngggknejkcepaa

/- soft.mapped at byte: its contract. -/
import Derived.Test.YtmbjcpppbgapbaaApp
import Derived.Test.YtmbjcpppbgapbaaSoft9
import Derived.Test.YtmbjcpppbgapbaaProg
import Derived.Test.YtmbjcpppbgapbaaJump
import Derived.Shelf.Abstract
namespace Go.Proofs.Ytmbjcpppbgapbaa
open Go.RowKit Go.Shelf
set_option linter.unusedVariables false
theorem belem_map : Elem1 Try.prog 38 5 1 (.int .u8 0) := Elem1.mk' Try.underlying38 (by kernel_rfl) rfl
theorem bmapped_err (w : World) (e n : Int) (f : Value) (he : e ≠ 0) :
    Calls Try.prog 39 #[.int .i64 e, .int .i64 n, f] w fun r w' => r = .returned (.tuple #[.slice none 0 0, .int .i64 e]) ∧ w = w' := by
  have h1 : ((e : Int) != 0) = true := by simp [he]
  clear he
  go_enter Try.func39, Try.ntmps39
  go_wp2
  refine wp_scope_once 0 { tmps := #[.int .i64 e, .int .i64 n, f, undef, undef, undef, .slice none 0 0, .int .i64 0, .slice none 0 0, undef, .int .i64 e, .bool true, undef, undef, undef, undef, undef, undef, undef, undef, undef, undef, undef, undef, undef, undef, undef, undef, undef, undef], defers := [] } w rfl ?first ?pass
  case first =>
    go_wp2
    go_step3
    exact ⟨rfl, rfl, rfl⟩
  case pass =>
    go_wp2
    rw [Exit.noGoto_ret]
    go_ret2
    exact ⟨rfl, rfl⟩
set_option maxHeartbeats 1000000 in
theorem bmapped_ok (w : World) (n : Nat) (F : FuncId) (caps : Array Value) (g : Nat → Int) (hn : n ≤ 17592186044415) (hef : ∀ args w, (callFunc F args).run Try.prog w = .ok (.enter F args) w)
    (hp : ∀ k, k < n → ∀ W, Below w.heap.size w W → Calls Try.prog F (#[.int .i64 k] ++ caps) W fun e w' => e = .returned (.int .u8 (g k)) ∧ Below W.heap.size W w') :
    Calls Try.prog 39 #[.int .i64 0, .int .i64 n, .func (.func F) #[] caps] w fun e w' => (∃ v', e = .returned (.tuple #[v', .int .i64 0]) ∧ Vw w' v' ((Soft.tab g n).map (Value.int .u8))) ∧ Below w.heap.size w w' := by
  have HP := hid hp
  clear hp
  go_enter Try.func39, Try.ntmps39
  go_wp2
  go_step3
  go_wp2
  go_loopw [8, 13] (fun v i wr => ∃ k : Nat, k ≤ n ∧ i = .int .i64 k ∧ OwnL wr w.heap.size 5 v ((Soft.tab g k).map (Value.int .u8)) ∧ Below w.heap.size w wr) (fun _ i _ => n - (intOf i).toNat)
  case atStart => exact ⟨0, Nat.zero_le _, rfl, OwnL.nil _ _ _, Below.refl _ _⟩
  case round =>
    obtain ⟨k, hk, rfl, hown, hB⟩ := hrel
    by_cases hlt : k < n
    · have hcall := hid (HP.out k hlt wr hB)
      have HS := hid (Soft.tab_succ g k)
      have HN := hid (show ((Soft.tab g k).map (Value.int .u8)).length = k by simp [Soft.tab_len])
      go_wp2_with (first
        | (refine hcall.out.mono ?_; rintro e w1 ⟨rfl, hB1⟩; have hown1 := hown.fr (Fr.of_below hB1) (fun g' e => by have := (hown.block e).2; omega); have hB2 := below_then hB hB1; have hsz := hB2.size; clear hown hB hB1)
        | (at_builtin; refine wpList_append_one rfl belem_map (.tmp 16) (.tmp 20) rfl w.heap.size _ k _ HN.out rfl hown1 _ rfl rfl (by omega) (by omega) hsz ?_; intro g1 cap1 w2 hown2 hf))
      have hB4 := hB2.trans (hf.below hsz (fun i hi e => by have := (hown1.block e).1; omega))
      clear hown1 hf hB2
      go_wp2
      go_roundw
      case rel => exact ⟨k + 1, by omega, by go_num, by rw [HS.out, List.map_append]; exact hown2, hB4⟩
      case measure => simp [intOf]; omega
    · obtain rfl : k = n := by omega
      obtain ⟨a, c, rfl, hc⟩ := hown.vw
      have HV := hid hc
      have HN := hid (show ((Soft.tab g k).map (Value.int .u8)).length = k by simp [Soft.tab_len])
      have hcap : k ≤ c := by
        rcases hown.2 with ⟨h1, h2⟩ | ⟨g', cap', cur, h1, _, _, h2, _⟩
        · rw [HN.out] at h2; omega
        · cases h1; rw [HN.out] at h2; exact h2
      rw [HN.out]
      clear hown hc
      go_wp2
      first
      | go_ret2
      | (rw [Exit.noGoto_ret]; go_ret2)
      exact ⟨⟨.slice a k k, rfl, _, _, by rw [HN.out], HV.out⟩, hB⟩
end Go.Proofs.Ytmbjcpppbgapbaa

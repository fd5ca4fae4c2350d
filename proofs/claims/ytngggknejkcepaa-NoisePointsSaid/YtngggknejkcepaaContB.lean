/- slices.ContainsFunc and slices.IndexFunc at []byte,byte: their contracts for a predicate that only computes. -/
import Derived.Test.YtngggknejkcepaaLib
import Derived.Test.YtngggknejkcepaaProg
import Derived.Shelf.Abstract
namespace Go.Proofs.Ytngggknejkcepaa
open Go.RowKit Go.Shelf
set_option linter.unusedVariables false

set_option maxHeartbeats 1000000 in
theorem bindex_any (w : World) (v : Value) (vs : List Value) (hv : Vw w v vs) (hl : vs.length ≤ 9223372036854775807) (F : FuncId) (caps : Array Value) (hef : ∀ args w, (callFunc F args).run Try.prog w = .ok (.enter F args) w) (p : Nat → Bool)
    (hp : ∀ i (h : i < vs.length), Calls Try.prog F (#[vs[i]] ++ caps) w fun e w' => e = .returned (.bool (p i)) ∧ w' = w) :
    Calls Try.prog 50 #[v, .func (.func F) #[] caps] w fun e w' => (∃ n : Int, e = .returned (.int .i64 n) ∧ Hid (decide (0 ≤ n) = (List.range vs.length).any p)) ∧ w' = w := by
  have HP := hid hp
  clear hp
  rcases hv.split with ⟨a, c, rfl, rfl⟩ | ⟨b, off, c, rfl, hp0, hc⟩
  · go_enter Try.func50, Try.ntmps50
    go_wp2
    refine wp_loop_rounds 1 ?_
    rw [rounds_succ]
    go_wp2
    go_ret
    exact ⟨⟨-1, rfl, by simp [Hid]⟩, rfl⟩
  · have HC := hid hc
    clear hc hv
    go_enter Try.func50, Try.ntmps50
    go_wp2
    go_loop [8] (fun i => ∃ k : Nat, k ≤ vs.length ∧ i = .int .i64 k ∧ Hid ((List.range k).any p = false)) (fun i => vs.length - (intOf i).toNat)
    case atStart => exact ⟨0, Nat.zero_le _, rfl, by simp [Hid]⟩
    case round =>
      obtain ⟨k, hk, rfl, hno⟩ := hrel
      by_cases hlt : k < vs.length
      · have hck := HC.out k hlt
        have hcall := HP.out k hlt
        obtain ⟨x, hx⟩ : ∃ x, x = vs[k] := ⟨_, rfl⟩
        rw [← hx] at hck hcall
        clear hx
        cases hpk : p k with
        | true =>
          rw [hpk] at hcall
          have HK := hid hpk
          clear hpk
          go_wp2_with (refine hcall.mono ?_; rintro e w' ⟨rfl, rfl⟩)
          go_ret
          refine ⟨⟨k, rfl, ?_⟩, rfl⟩
          rw [Hid, List.any_eq_true.2 ⟨k, by simpa using hlt, HK.out⟩]; simp
        | false =>
          rw [hpk] at hcall
          have HK := hid hpk
          clear hpk
          go_wp2_with (refine hcall.mono ?_; rintro e w' ⟨rfl, rfl⟩)
          go_round
          case rel => exact ⟨k + 1, by omega, by go_num, by rw [Hid, List.range_succ, List.any_append, hno.out]; simp [HK.out]⟩
          case measure => simp [intOf]; omega
      · obtain rfl : k = vs.length := by omega
        go_wp2
        go_ret
        exact ⟨⟨-1, rfl, by rw [Hid, hno.out]; simp⟩, rfl⟩

theorem bcontains_any (w : World) (v : Value) (vs : List Value) (hv : Vw w v vs) (hl : vs.length ≤ 9223372036854775807) (F : FuncId) (caps : Array Value) (hef : ∀ args w, (callFunc F args).run Try.prog w = .ok (.enter F args) w) (p : Nat → Bool)
    (hp : ∀ i (h : i < vs.length), Calls Try.prog F (#[vs[i]] ++ caps) w fun e w' => e = .returned (.bool (p i)) ∧ w' = w) :
    Calls Try.prog 31 #[v, .func (.func F) #[] caps] w fun e w' => e = .returned (.bool ((List.range vs.length).any p)) ∧ w' = w := by
  have HI := hid (bindex_any w v vs hv hl F caps hef p hp)
  have HV := hid hv
  clear hp hv hef
  go_enter Try.func31, Try.ntmps31
  go_wp2_with (go_at_call 50; refine HI.out.mono ?_; rintro e w' ⟨⟨n, rfl, hn⟩, rfl⟩)
  go_ret
  exact ⟨ret_bool hn.out, rfl⟩
end Go.Proofs.Ytngggknejkcepaa

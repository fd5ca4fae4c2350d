/- slices.ContainsFunc and slices.IndexFunc at userplane/soft.list,int: their contracts for a predicate that may make memory. -/
import Derived.Test.YtngggknejkcepaaLib
import Derived.Test.YtngggknejkcepaaProg
import Derived.Shelf.Abstract
namespace Go.Proofs.Ytngggknejkcepaa
open Go.RowKit Go.Shelf
set_option linter.unusedVariables false

set_option maxHeartbeats 1000000 in
theorem lindex_any (w : World) (v : Value) (vs : List Value) (hv : Vw w v vs) (hl : vs.length ≤ 9223372036854775807) (F : FuncId) (caps : Array Value) (hef : ∀ args w, (callFunc F args).run Try.prog w = .ok (.enter F args) w) (p : Nat → Bool)
    (hp : ∀ i (h : i < vs.length) W, Below w.heap.size w W → Calls Try.prog F (#[vs[i]] ++ caps) W fun e w' => e = .returned (.bool (p i)) ∧ Below W.heap.size W w') :
    Calls Try.prog 62 #[v, .func (.func F) #[] caps] w fun e w' => (∃ n : Int, e = .returned (.int .i64 n) ∧ Hid (decide (0 ≤ n) = (List.range vs.length).any p)) ∧ Below w.heap.size w w' := by
  have HP := hid hp
  clear hp
  rcases hv.split with ⟨a, c, rfl, rfl⟩ | ⟨b, off, c, rfl, hp0, hc⟩
  · go_enter Try.func62, Try.ntmps62
    go_wp2
    refine wp_loop_rounds 1 ?_
    rw [rounds_succ]
    go_wp2
    go_ret
    exact ⟨⟨-1, rfl, by simp [Hid]⟩, Below.refl _ _⟩
  · have HC := hid hc
    have hbl : b < w.heap.size := World.block_lt_of_cell? w _ (hc 0 hp0)
    clear hc hv
    go_enter Try.func62, Try.ntmps62
    go_wp2
    go_loopw [8] (fun i wr => ∃ k : Nat, k ≤ vs.length ∧ i = .int .i64 k ∧ Hid ((List.range k).any p = false) ∧ Below w.heap.size w wr) (fun i _ => vs.length - (intOf i).toNat)
    case atStart => exact ⟨0, Nat.zero_le _, rfl, by simp [Hid], Below.refl _ _⟩
    case round =>
      obtain ⟨k, hk, rfl, hno, hB⟩ := hrel
      by_cases hlt : k < vs.length
      · have hck := (hB.cell (p := ⟨b, off + k, none⟩) hbl).trans (HC.out k hlt)
        have hcall := HP.out k hlt wr hB
        obtain ⟨x, hx⟩ : ∃ x, x = vs[k] := ⟨_, rfl⟩
        rw [← hx] at hck hcall
        clear hx
        cases hpk : p k with
        | true =>
          rw [hpk] at hcall
          have HK := hid hpk
          clear hpk
          go_wp2_with (refine hcall.mono ?_; rintro e w' ⟨rfl, hB1⟩)
          go_ret
          refine ⟨⟨k, rfl, ?_⟩, below_then hB hB1⟩
          rw [Hid, List.any_eq_true.2 ⟨k, by simpa using hlt, HK.out⟩]; simp
        | false =>
          rw [hpk] at hcall
          have HK := hid hpk
          clear hpk
          go_wp2_with (refine hcall.mono ?_; rintro e w' ⟨rfl, hB1⟩)
          have hB2 := below_then hB hB1
          clear hB hB1 hck
          go_roundw
          case rel => exact ⟨k + 1, by omega, by go_num, by rw [Hid, List.range_succ, List.any_append, hno.out]; simp [HK.out], hB2⟩
          case measure => simp [intOf]; omega
      · obtain rfl : k = vs.length := by omega
        go_wp2
        go_ret
        exact ⟨⟨-1, rfl, by rw [Hid, hno.out]; simp⟩, hB⟩

theorem lcontains_any (w : World) (v : Value) (vs : List Value) (hv : Vw w v vs) (hl : vs.length ≤ 9223372036854775807) (F : FuncId) (caps : Array Value) (hef : ∀ args w, (callFunc F args).run Try.prog w = .ok (.enter F args) w) (p : Nat → Bool)
    (hp : ∀ i (h : i < vs.length) W, Below w.heap.size w W → Calls Try.prog F (#[vs[i]] ++ caps) W fun e w' => e = .returned (.bool (p i)) ∧ Below W.heap.size W w') :
    Calls Try.prog 58 #[v, .func (.func F) #[] caps] w fun e w' => e = .returned (.bool ((List.range vs.length).any p)) ∧ Below w.heap.size w w' := by
  have HI := hid (lindex_any w v vs hv hl F caps hef p hp)
  have HV := hid hv
  clear hp hv hef
  go_enter Try.func58, Try.ntmps58
  go_wp2_with (go_at_call 62; refine HI.out.mono ?_; rintro e w' ⟨⟨n, rfl, hn⟩, hB⟩)
  go_ret
  exact ⟨ret_bool hn.out, hB⟩
end Go.Proofs.Ytngggknejkcepaa

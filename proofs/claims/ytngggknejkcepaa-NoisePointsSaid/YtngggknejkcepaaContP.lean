/- slices.ContainsFunc and slices.IndexFunc at points, for a predicate that lays blocks of its own. -/
import Derived.Test.YtngggknejkcepaaPtN
import Derived.Test.YtngggknejkcepaaProg
import Derived.Shelf.Abstract
namespace Go.Proofs.Ytngggknejkcepaa
open Go.RowKit Go.Shelf
set_option linter.unusedVariables false
set_option maxHeartbeats 1000000 in
theorem pindex_any (w : World) (v : Value) (ps : List Pt) (hv : PVw w v ps) (hl : ps.length ≤ 1000000) (F : FuncId) (hef : ∀ args w, (callFunc F args).run Try.prog w = .ok (.enter F args) w) (p : Nat → Bool)
    (hp : ∀ i, i < ps.length → ∀ W, Below w.heap.size w W → Calls Try.prog F #[ptV (ps.getD i (0, 0))] W fun e w' => e = .returned (.bool (p i)) ∧ Below W.heap.size W w') :
    Calls Try.prog 57 #[v, .func (.func F) #[] #[]] w fun e w' => (∃ n : Int, e = .returned (.int .i64 n) ∧ Hid (decide (0 ≤ n) = (List.range ps.length).any p)) ∧ Below w.heap.size w w' := by
  have HP := hid hp
  have HV := hid hv
  obtain ⟨a, c, rfl, _⟩ := hv
  clear hp
  go_enter Try.func57, Try.ntmps57
  go_wp2
  go_loopw [8] (fun i wr => ∃ k : Nat, k ≤ ps.length ∧ i = .int .i64 k ∧ Hid ((List.range k).any p = false) ∧ Below w.heap.size w wr) (fun i _ => ps.length - (intOf i).toNat)
  case atStart => exact ⟨0, Nat.zero_le _, rfl, by simp [Hid], Below.refl _ _⟩
  case round =>
    obtain ⟨k, hk, rfl, hno, hB⟩ := hrel
    by_cases hlt : k < ps.length
    · obtain ⟨b1, o1, e1, hx, hy⟩ := (HV.out.below hB (Nat.le_refl _)).at hlt
      cases e1
      have hcall := hid (HP.out k hlt wr hB)
      generalize ps.getD k (0, 0) = q at *
      obtain ⟨px, py⟩ := q
      dsimp only [ptV] at hx hy hcall
      have HB := hid hB
      clear hB
      cases hpk : p k with
      | true =>
        rw [hpk] at hcall
        have HK := hid hpk
        clear hpk
        go_wp2_with (refine hcall.out.mono ?_; rintro e w' ⟨rfl, B⟩)
        go_ret
        refine ⟨⟨k, rfl, ?_⟩, below_then HB.out B⟩
        rw [Hid, List.any_eq_true.2 ⟨k, by simpa using hlt, HK.out⟩]; simp
      | false =>
        rw [hpk] at hcall
        have HK := hid hpk
        clear hpk
        go_wp2_with (refine hcall.out.mono ?_; rintro e w' ⟨rfl, B⟩)
        have HB2 := hid (below_then HB.out B)
        clear B
        go_roundw
        case rel => exact ⟨k + 1, by omega, by go_num, by rw [Hid, List.range_succ, List.any_append, hno.out]; simp [HK.out], HB2.out⟩
        case measure => simp [intOf]; omega
    · obtain rfl : k = ps.length := by omega
      have HB := hid hB
      clear hB
      go_wp2
      go_ret
      exact ⟨⟨-1, rfl, by rw [Hid, hno.out]; simp⟩, HB.out⟩
theorem pcontains_any (w : World) (v : Value) (ps : List Pt) (hv : PVw w v ps) (hl : ps.length ≤ 1000000) (F : FuncId) (hef : ∀ args w, (callFunc F args).run Try.prog w = .ok (.enter F args) w) (p : Nat → Bool)
    (hp : ∀ i, i < ps.length → ∀ W, Below w.heap.size w W → Calls Try.prog F #[ptV (ps.getD i (0, 0))] W fun e w' => e = .returned (.bool (p i)) ∧ Below W.heap.size W w') :
    Calls Try.prog 46 #[v, .func (.func F) #[] #[]] w fun e w' => e = .returned (.bool ((List.range ps.length).any p)) ∧ Below w.heap.size w w' := by
  have HI := hid (pindex_any w v ps hv hl F hef p hp)
  clear hp hv hef
  go_enter Try.func46, Try.ntmps46
  go_wp2_with (go_at_call 57; refine HI.out.mono ?_; rintro e w' ⟨⟨n, rfl, hn⟩, B⟩)
  go_ret
  exact ⟨ret_bool hn.out, B⟩
end Go.Proofs.Ytngggknejkcepaa

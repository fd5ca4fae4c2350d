/- userplanelaw17.same: it says whether two slices of ints are equal. -/
import Derived.Test.YtighnjbcnfnpmaaLib
import Derived.Test.YtighnjbcnfnpmaaProg
namespace Go.Proofs.Ytighnjbcnfnpmaa
open Go.RowKit

set_option maxHeartbeats 400000 in
theorem same17_any (w : World) (va vb : Value) (A B : List Int) (ha : Vw w va (A.map (Value.int .i64))) (hb : Vw w vb (B.map (Value.int .i64)))
    (hla : A.length ≤ 9223372036854775807) (hlb : B.length ≤ 9223372036854775807) :
    Calls Try.prog 18 #[va, vb] w fun e w' => e = .returned (.bool (decide (A = B))) ∧ ∃ n, w' = w.drewN n := by
  by_cases hl : A.length = B.length
  · rcases ha.split with ⟨a, c, rfl, h0⟩ | ⟨b, off, c, rfl, hp, hc⟩
    · obtain rfl : A = [] := by simpa using h0
      obtain rfl : B = [] := by simpa using hl.symm
      obtain ⟨a', c', rfl, _⟩ := hb
      go_enter Try.func18, Try.ntmps18
      go_wp2
      refine wp_loop_rounds 1 ?_
      rw [rounds_succ]
      go_wp2
      go_ret
      exact ⟨rfl, 0, rfl⟩
    · rcases hb.split with ⟨a', c', rfl, h0⟩ | ⟨b', off', c', rfl, hp', hc'⟩
      · obtain rfl : B = [] := by simpa using h0
        simp at hl; simp [hl] at hp
      · simp only [List.length_map, List.getElem_map] at hc hc' ⊢
        have hne : (((A.length : Int) != (B.length : Int)) = false) := by simp [hl]
        have HL : Hid (A.length = B.length) := hl
        clear hl
        go_enter Try.func18, Try.ntmps18
        go_wp2
        go_loopw [5] (fun i wr => ∃ k m : Nat, k ≤ A.length ∧ i = .int .i64 k ∧ A.take k = B.take k ∧ wr = w.drewN m) (fun i _ => A.length - (intOf i).toNat)
        case atStart => exact ⟨0, 0, Nat.zero_le _, rfl, rfl, rfl⟩
        case round =>
          obtain ⟨k, m, hk, rfl, htk, rfl⟩ := hrel
          by_cases hlt : k < A.length
          · have h1 := hc k hlt
            have h2 := hc' k (by rw [← HL.out]; exact hlt)
            have hlt' : k < B.length := by rw [← HL.out]; exact hlt
            clear hc hc'
            go_wp2
            by_cases he : A[k] = B[k]
            · have hd : ((A[k] : Int) != B[k]) = false := by simp [he]
              have HE : Hid (A[k] = B[k]) := he
              clear he
              go_quiet (fail)
              go_wp2
              go_roundw
              case rel => exact ⟨k + 1, m + nq, by omega, by go_num, take_eq_succ hlt hlt' htk HE.out, rfl⟩
              case measure => simp [intOf]; omega
            · have hd : ((A[k] : Int) != B[k]) = true := by simp [he]
              have HE : Hid (A[k] ≠ B[k]) := he
              clear he
              go_quiet (fail)
              go_wp2
              go_ret
              exact ⟨ret_bool (decide_eq_false (fun e : A = B => HE.out (by subst e; rfl))).symm, m + nq, by simp [World.drewN_drewN]⟩
          · go_wp2
            go_ret
            rw [List.take_of_length_le (by omega), List.take_of_length_le (by rw [← HL.out]; omega)] at htk
            exact ⟨ret_bool (decide_eq_true htk).symm, m, rfl⟩
  · obtain ⟨a, c, rfl, _⟩ := ha
    obtain ⟨a', c', rfl, _⟩ := hb
    simp only [List.length_map]
    have hne : (((A.length : Int) != (B.length : Int)) = true) := by simp; omega
    have HL : Hid (¬ A.length = B.length) := hl
    clear hl
    go_enter Try.func18, Try.ntmps18
    go_wp2
    go_ret
    exact ⟨ret_bool (decide_eq_false (fun e : A = B => HL.out (by rw [e]))).symm, 0, rfl⟩
end Go.Proofs.Ytighnjbcnfnpmaa

/- userplaneref17: Same. -/
import Derived.Test.YtighnjbcnfnpmaaGriH
import Derived.Test.YtighnjbcnfnpmaaGriF
namespace Go.Proofs.Ytighnjbcnfnpmaa
open Go.RowKit Go.Shelf
set_option linter.unusedVariables false
attribute [local go_sem ↓] Go.wp_at_zero Go.wp_at_succ
set_option maxHeartbeats 1000000 in
theorem refSame17 (w : World) (va vb : Value) (A B : List Pt) (ha : PVw w va A) (hb : PVw w vb B) (hla : A.length ≤ 1000000) (hlb : B.length ≤ 1000000) :
    Calls Try.prog 26 #[va, vb] w fun e w' => e = .returned (.bool (decide (A = B))) ∧ ∃ n, w' = w.drewN n := by
  obtain ⟨a, c, rfl, hc⟩ := ha
  obtain ⟨a', c', rfl, hc'⟩ := hb
  by_cases hl : A.length = B.length
  · have hne : (((A.length : Int) != (B.length : Int)) = false) := by simp [hl]
    have HL : Hid (A.length = B.length) := hl
    clear hl
    go_enter Try.func26, Try.ntmps26
    go_wp2
    go_loopw [5] (fun i wr => ∃ k m : Nat, k ≤ A.length ∧ i = .int .i64 k ∧ A.take k = B.take k ∧ wr = w.drewN m) (fun i _ => A.length - (intOf i).toNat)
    case atStart => exact ⟨0, 0, Nat.zero_le _, rfl, rfl, rfl⟩
    case round =>
      obtain ⟨k, m, hk, rfl, htk, rfl⟩ := hrel
      by_cases hlt : k < A.length
      · have hlt' : k < B.length := by rw [← HL.out]; exact hlt
        obtain ⟨b1, o1, e1, h1, h2⟩ := hc k hlt
        obtain ⟨b2, o2, e2, h3, h4⟩ := hc' k hlt'
        cases e1
        cases e2
        clear hc hc'
        go_wp2
        by_cases he : A[k] = B[k]
        · have hd : ((A[k].1 : Int) == B[k].1) = true := by simp [he]
          have hd2 : ((A[k].2 : Int) == B[k].2) = true := by simp [he]
          have HE : Hid (A[k] = B[k]) := he
          clear he
          go_quiet (fail)
          go_wp2
          go_roundw
          case rel => exact ⟨k + 1, m + nq, by omega, by go_num, take_eq_succ hlt hlt' htk HE.out, rfl⟩
          case measure => simp [intOf]; omega
        · have HE : Hid (A[k] ≠ B[k]) := he
          by_cases h12 : A[k].1 = B[k].1
          · have hd : ((A[k].1 : Int) == B[k].1) = true := by simp [h12]
            have hd2 : ((A[k].2 : Int) == B[k].2) = false := by
              rw [beq_eq_false_iff_ne]
              exact fun h2 => he (Prod.ext h12 h2)
            clear he h12
            go_quiet (fail)
            go_wp2
            go_ret
            exact ⟨ret_bool (decide_eq_false (fun e : A = B => HE.out (by subst e; rfl))).symm, m + nq, by simp [World.drewN_drewN]⟩
          · have hd : ((A[k].1 : Int) == B[k].1) = false := by
              rw [beq_eq_false_iff_ne]
              exact h12
            clear he h12
            go_quiet (fail)
            go_wp2
            go_ret
            exact ⟨ret_bool (decide_eq_false (fun e : A = B => HE.out (by subst e; rfl))).symm, m + nq, by simp [World.drewN_drewN]⟩
      · go_wp2
        go_ret
        rw [List.take_of_length_le (by omega), List.take_of_length_le (by rw [← HL.out]; omega)] at htk
        exact ⟨ret_bool (decide_eq_true htk).symm, m, rfl⟩
  · have hne : (((A.length : Int) != (B.length : Int)) = true) := by simp; omega
    have HL : Hid (¬ A.length = B.length) := hl
    clear hl hc hc'
    go_enter Try.func26, Try.ntmps26
    go_wp2
    go_ret
    exact ⟨ret_bool (decide_eq_false (fun e : A = B => HL.out (by rw [e]))).symm, 0, rfl⟩
end Go.Proofs.Ytighnjbcnfnpmaa

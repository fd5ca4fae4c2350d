/- userplaneref11.Compare; soft.Least and the reference's. -/
import Derived.Test.YtmbjcpppbgapbaaSoftD
namespace Go.Proofs.Ytmbjcpppbgapbaa
open Go.RowKit Go.Shelf
set_option linter.unusedVariables false
set_option maxHeartbeats 1000000 in
theorem refCompare_any (w : World) (va vb : Value) (A B : List Int) (hva : Vw w va (A.map (Value.int .i64))) (hvb : Vw w vb (B.map (Value.int .u8))) (hA : A.length ≤ 9223372036854775807) (hB : B.length ≤ 9223372036854775807) (hwf : ∀ n ∈ B, (Lit.int .u8 n).wf = true) :
    Calls Try.prog 28 #[va, vb] w fun e w' => e = .returned (.tuple #[.int .i64 (Soft.cmpR A B).1, .int .i64 (Soft.cmpR A B).2.1, .int .i64 (Soft.cmpR A B).2.2]) ∧ Below w.heap.size w w' := by
  have VA := hid (refValid_any w va A hva hA)
  have VB := hid (refBinary_any w vb B hvb hB)
  have HA := hid hva
  have HB := hid hvb
  obtain ⟨aa, ca, rfl, _⟩ := hva
  obtain ⟨ab, cb, rfl, _⟩ := hvb
  rw [List.length_map] at VA HA ⊢
  rw [List.length_map] at VB HB ⊢
  cases hbA : Soft.bad A with
  | true =>
    rw [Soft.cmpR_arg (.inl hbA)]
    rw [hbA] at VA
    clear hbA
    go_enter Try.func28, Try.ntmps28
    go_wp2_with (go_at_call 20; refine VA.out.mono ?_; rintro e w1 ⟨rfl, rfl⟩)
    go_ret3
    exact ⟨rfl, Below.refl _ _⟩
  | false =>
    rw [hbA] at VA
    by_cases hl : A.length = B.length
    · have hle : ((A.length : Int) != (B.length : Int)) = false := by simp [hl]
      cases hbB : Soft.bbad B with
      | true =>
        rw [Soft.cmpR_bit hbA hl hbB]
        rw [hbB] at VB
        clear hbA hbB hl
        go_enter Try.func28, Try.ntmps28
        go_wp2_with (first
          | (go_at_call 20; refine VA.out.mono ?_; rintro e w1 ⟨rfl, rfl⟩)
          | (go_at_call 45; refine VB.out.mono ?_; rintro e w1 ⟨rfl, rfl⟩))
        go_ret3
        exact ⟨rfl, Below.refl _ _⟩
      | false =>
        rw [Soft.cmpR_ok hbA hl hbB]
        rw [hbB] at VB
        have HL := hid hl
        have HbB := hid hbB
        have HW := hid hwf
        clear hbA hbB hl hwf
        go_enter Try.func28, Try.ntmps28
        go_wp2_with (first
          | (go_at_call 20; refine VA.out.mono ?_; rintro e w1 ⟨rfl, rfl⟩)
          | (go_at_call 45; refine VB.out.mono ?_; rintro e w1 ⟨rfl, rfl⟩))
        go_loopw [7, 8, 9] (fun a b i wr => ∃ k : Nat, k ≤ A.length ∧ i = .int .i64 k ∧ a = .int .i64 (Soft.wrongN A B k) ∧ b = .int .i64 (Soft.unknownN A k) ∧ Hid (∃ m, wr = w.drewN m)) (fun _ _ i _ => A.length - (intOf i).toNat)
        case atStart => exact ⟨0, Nat.zero_le _, rfl, rfl, rfl, ⟨0, rfl⟩⟩
        case round =>
          obtain ⟨k, hk, rfl, rfl, rfl, hD⟩ := hrel
          by_cases hlt : k < A.length
          · have hBr : Below w.heap.size w wr := by obtain ⟨m, rfl⟩ := hD.out; exact below_drewN _ m
            obtain ⟨b1, o1, c1, e1, hx⟩ := vw_at (HA.out.below hBr (Nat.le_refl _)) hlt
            have hlt2 : k < B.length := by have := HL.out; omega
            have hmB : B.length ≤ 9223372036854775807 := hB
            obtain ⟨b2, o2, c2, e2, hy⟩ := vw_at (HB.out.below hBr (Nat.le_refl _)) hlt2
            cases e1; cases e2
            have hybit := Soft.bit_of (Soft.bbad_at HbB.out hlt2) (HW.out (B.getD k 0) (by simp [List.getD, hlt2]))
            have HW1 := hid (show Soft.wrongN A B (k + 1) = Soft.wrongN A B k + (if A.getD k 0 = 0 then 0 else if Soft.sgn (A.getD k 0) = B.getD k 0 then 0 else 1) from rfl)
            have HU1 := hid (show Soft.unknownN A (k + 1) = Soft.unknownN A k + (if A.getD k 0 = 0 then 1 else 0) from rfl)
            have hp := Soft.wrongN_le A B k
            have hq := Soft.unknownN_le A k
            generalize A.getD k 0 = x at *
            generalize B.getD k 0 = y at *
            generalize Soft.wrongN A B k = p at *
            generalize Soft.unknownN A k = q at *
            clear hBr
            by_cases hx0 : x = 0
            · subst hx0
              have HW2 := hid (show Soft.wrongN A B (k + 1) = p by rw [HW1.out]; simp)
              have HU2 := hid (show Soft.unknownN A (k + 1) = q + 1 by rw [HU1.out]; simp)
              clear HW1 HU1 hybit
              go_wp2
              go_roundw
              case rel => exact ⟨k + 1, by omega, by go_num, by rw [HW2.out], by rw [HU2.out]; go_num, hD⟩
              case measure => simp [intOf]; omega
            · have hxb : (x == 0) = false := by simp [hx0]
              by_cases hneg : x < 0
              · have hd : decide (x < 0) = true := by simp [hneg]
                rcases hybit with rfl | rfl
                · have HW2 := hid (show Soft.wrongN A B (k + 1) = p + 1 by rw [HW1.out, if_neg hx0, Soft.sgn, if_pos hneg]; rfl)
                  have HU2 := hid (show Soft.unknownN A (k + 1) = q by rw [HU1.out, if_neg hx0]; rfl)
                  clear HW1 HU1 hx0
                  go_wp2
                  go_quiet (fail)
                  go_wp2
                  go_roundw
                  case rel => exact ⟨k + 1, by omega, by go_num, by rw [HW2.out]; go_num, by rw [HU2.out], by obtain ⟨m, rfl⟩ := hD.out; exact ⟨m + nq, by simp [World.drewN_drewN]⟩⟩
                  case measure => simp [intOf]; omega
                · have HW2 := hid (show Soft.wrongN A B (k + 1) = p by rw [HW1.out, if_neg hx0, Soft.sgn, if_pos hneg]; rfl)
                  have HU2 := hid (show Soft.unknownN A (k + 1) = q by rw [HU1.out, if_neg hx0]; rfl)
                  clear HW1 HU1 hx0
                  go_wp2
                  go_quiet (fail)
                  go_wp2
                  go_roundw
                  case rel => exact ⟨k + 1, by omega, by go_num, by rw [HW2.out], by rw [HU2.out], by obtain ⟨m, rfl⟩ := hD.out; exact ⟨m + nq, by simp [World.drewN_drewN]⟩⟩
                  case measure => simp [intOf]; omega
              · have hd : decide (x < 0) = false := by simp; omega
                rcases hybit with rfl | rfl
                · have HW2 := hid (show Soft.wrongN A B (k + 1) = p by rw [HW1.out, if_neg hx0, Soft.sgn, if_neg hneg]; rfl)
                  have HU2 := hid (show Soft.unknownN A (k + 1) = q by rw [HU1.out, if_neg hx0]; rfl)
                  clear HW1 HU1 hx0
                  go_wp2
                  go_quiet (fail)
                  go_wp2
                  go_roundw
                  case rel => exact ⟨k + 1, by omega, by go_num, by rw [HW2.out], by rw [HU2.out], by obtain ⟨m, rfl⟩ := hD.out; exact ⟨m + nq, by simp [World.drewN_drewN]⟩⟩
                  case measure => simp [intOf]; omega
                · have HW2 := hid (show Soft.wrongN A B (k + 1) = p + 1 by rw [HW1.out, if_neg hx0, Soft.sgn, if_neg hneg]; rfl)
                  have HU2 := hid (show Soft.unknownN A (k + 1) = q by rw [HU1.out, if_neg hx0]; rfl)
                  clear HW1 HU1 hx0
                  go_wp2
                  go_quiet (fail)
                  go_wp2
                  go_roundw
                  case rel => exact ⟨k + 1, by omega, by go_num, by rw [HW2.out]; go_num, by rw [HU2.out], by obtain ⟨m, rfl⟩ := hD.out; exact ⟨m + nq, by simp [World.drewN_drewN]⟩⟩
                  case measure => simp [intOf]; omega
          · obtain rfl : k = A.length := by omega
            go_wp2
            go_ret3
            exact ⟨rfl, by obtain ⟨m, rfl⟩ := hD.out; exact below_drewN _ m⟩
    · rw [Soft.cmpR_arg (.inr hl)]
      have hle : ((A.length : Int) != (B.length : Int)) = true := by simp; omega
      clear hbA hl
      go_enter Try.func28, Try.ntmps28
      go_wp2_with (go_at_call 20; refine VA.out.mono ?_; rintro e w1 ⟨rfl, rfl⟩)
      go_ret3
      exact ⟨rfl, Below.refl _ _⟩

theorem mag_any (w : World) (va : Value) (A : List Int) (hva : Vw w va (A.map (Value.int .i64))) (hA : A.length ≤ 9223372036854775807) (hbad : Soft.bad A = false) (j : Nat) (hj : j < A.length) :
    Calls Try.prog 46 #[va, .int .i64 j] w fun e w' => e = .returned (.int .i64 (Soft.mag (A.getD j 0))) ∧ ∃ m, w' = w.drewN m := by
  obtain ⟨b1, o1, c1, rfl, hx⟩ := vw_at hva hj
  have hx0 := Soft.inv_false (Soft.bad_at hbad hj)
  generalize A.getD j 0 = x at *
  clear hva hbad
  unfold Soft.mag
  by_cases hneg : x < 0
  · rw [if_pos hneg]
    go_enter Try.func46, Try.ntmps46
    go_wp2
    go_quiet (fail)
    go_wp2
    go_ret
    exact ⟨ret_int (by omega), _, rfl⟩
  · rw [if_neg hneg]
    go_enter Try.func46, Try.ntmps46
    go_wp2
    go_quiet (fail)
    go_wp2
    go_ret
    exact ⟨ret_int (by omega), _, rfl⟩
end Go.Proofs.Ytmbjcpppbgapbaa

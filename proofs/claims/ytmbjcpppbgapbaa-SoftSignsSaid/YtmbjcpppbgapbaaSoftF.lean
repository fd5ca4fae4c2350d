/- soft.Least and the reference's. -/
import Derived.Test.YtmbjcpppbgapbaaSoftE
namespace Go.Proofs.Ytmbjcpppbgapbaa
open Go.RowKit Go.Shelf
set_option linter.unusedVariables false
theorem Calls.quiet_ex {P : Program} {f : FuncId} {args : Array Value} {w : World} {n : Nat} {v : Value}
    (h : Calls P f args (w.drewN n) fun e w' => e = .returned v ∧ ∃ m, w' = (w.drewN n).drewN m) : Calls P f args (w.drewN n) fun e w'' => e = .returned v ∧ ∃ m, w'' = w.drewN m := Calls.quiet_of h
theorem drew_of {W wr : World} {n : Nat} (h : ∃ m, wr = W.drewN m) : ∃ m, wr.drewN n = W.drewN m := by obtain ⟨m, rfl⟩ := h; exact ⟨m + n, by simp [World.drewN_drewN]⟩
set_option maxHeartbeats 1000000 in
theorem least_any (w : World) (va : Value) (A : List Int) (hva : Vw w va (A.map (Value.int .i64))) (hA : A.length ≤ 9223372036854775807) :
    Calls Try.prog 29 #[va] w fun e w' => e = .returned (.tuple #[.int .i64 (Soft.leastR A).1, .int .i64 (Soft.leastR A).2]) ∧ Below w.heap.size w w' := by
  have VA := hid (fun w h => listValid_any w va A h hA)
  have HA := hid hva
  obtain ⟨M, hM⟩ : ∃ M : Nat → Int, M = fun j => Soft.mag (A.getD j 0) := ⟨_, rfl⟩
  have C := hid (show Soft.bad A = false → ∀ W, Vw W va (A.map (Value.int .i64)) → ∀ j : Nat, j < A.length → Calls Try.prog 46 #[va, .int .i64 j] W fun e w' => e = .returned (.int .i64 (M j)) ∧ ∃ m, w' = W.drewN m from
    fun hb W h j hj => by subst hM; exact mag_any W va A h hA hb j hj)
  have HL := hid (show ∀ k, Soft.leastN A (k + 1) = if M k < M (Soft.leastN A k) then k else Soft.leastN A k from fun k => by subst hM; rfl)
  obtain ⟨aa, ca, rfl, _⟩ := hva
  rw [List.length_map] at VA HA C ⊢
  clear hM
  cases hbA : Soft.bad A with
  | true =>
    rw [Soft.leastR_err (.inl hbA)]
    rw [hbA] at VA
    clear hbA
    go_enter Try.func29, Try.ntmps29
    go_wp2_with fail
    refine (VA.out _ (HA.out.below (below_alloc _ _) (Nat.le_refl _))).mono ?_
    rintro e w1 ⟨rfl, hB1⟩
    have hW1 := (below_alloc w _).trans (hB1.mono (by simp))
    go_wp2
    go_ret2
    exact ⟨rfl, hW1⟩
  | false =>
    rw [hbA] at VA
    by_cases h0 : A.length = 0
    · rw [Soft.leastR_err (.inr h0)]
      have h00 : ((A.length : Int) == 0) = true := by simp [h0]
      clear hbA h0
      go_enter Try.func29, Try.ntmps29
      go_wp2_with fail
      refine (VA.out _ (HA.out.below (below_alloc _ _) (Nat.le_refl _))).mono ?_
      rintro e w1 ⟨rfl, hB1⟩
      have hW1 := (below_alloc w _).trans (hB1.mono (by simp))
      go_wp2
      go_ret2
      exact ⟨rfl, hW1⟩
    · rw [Soft.leastR_ok hbA h0]
      have h00 : ((A.length : Int) == 0) = false := by simp; intro h; simp [h] at h0
      have hpos : 0 < A.length := Nat.pos_of_ne_zero h0
      have HbA := hid hbA
      clear hbA h0
      go_enter Try.func29, Try.ntmps29
      go_wp2_with fail
      refine (VA.out _ (HA.out.below (below_alloc _ _) (Nat.le_refl _))).mono ?_
      rintro e w1 ⟨rfl, hB1⟩
      have hW1 := hid ((below_alloc w _).trans (hB1.mono (by simp)))
      have hf1 := hid (show w1.cell? ⟨w.heap.size, 0, none⟩ = some (.slice aa A.length ca) from (hB1.cell (p := ⟨w.heap.size, 0, none⟩) (by simp)).trans (by go_simp))
      clear hB1
      go_wp2
      go_loopw [2, 19] (fun a i wr => ∃ k : Nat, k ≤ A.length ∧ i = .int .i64 k ∧ a = .int .i64 (Soft.leastN A k) ∧ Hid (∃ m, wr = w1.drewN m)) (fun _ i _ => A.length - (intOf i).toNat)
      case atStart => exact ⟨0, Nat.zero_le _, rfl, rfl, ⟨0, rfl⟩⟩
      case round =>
        obtain ⟨k, hk, rfl, rfl, hD⟩ := hrel
        by_cases hlt : k < A.length
        · have f1 : wr.cell? ⟨w.heap.size, 0, none⟩ = some (.slice aa A.length ca) := by obtain ⟨m, rfl⟩ := hD.out; exact hf1.out
          have HV := hid (show Vw wr (.slice aa A.length ca) (A.map (Value.int .i64)) by obtain ⟨m, rfl⟩ := hD.out; exact (HA.out.below hW1.out (Nat.le_refl _)).drewN m)
          have hp := Soft.leastN_lt A k A.length hk hpos
          have HLk := hid (HL.out k)
          generalize Soft.leastN A k = p at *
          by_cases hc : M k < M p
          · have HLs := hid (show Soft.leastN A (k + 1) = k by rw [HLk.out, if_pos hc])
            have hd : decide (M k < M p) = true := by simp [hc]
            clear hc
            go_wp2
            go_quiet ((go_at_call 46; exact Calls.quiet_ex (C.out HbA.out _ (HV.out.drewN _) _ (by assumption))))
            go_wp2
            go_roundw
            case rel => exact ⟨k + 1, by omega, by go_num, by rw [HLs.out], drew_of hD.out⟩
            case measure => simp [intOf]; omega
          · have HLs := hid (show Soft.leastN A (k + 1) = p by rw [HLk.out, if_neg hc])
            have hd : decide (M k < M p) = false := by simp; omega
            clear hc
            go_wp2
            go_quiet ((go_at_call 46; exact Calls.quiet_ex (C.out HbA.out _ (HV.out.drewN _) _ (by assumption))))
            go_wp2
            go_roundw
            case rel => exact ⟨k + 1, by omega, by go_num, by rw [HLs.out], drew_of hD.out⟩
            case measure => simp [intOf]; omega
        · obtain rfl : k = A.length := by omega
          go_wp2
          go_ret2
          exact ⟨rfl, by obtain ⟨m, rfl⟩ := hD.out; exact hW1.out.trans ((below_drewN _ m).mono hW1.out.size)⟩
set_option maxHeartbeats 1000000 in
theorem refLeast_any (w : World) (va : Value) (A : List Int) (hva : Vw w va (A.map (Value.int .i64))) (hA : A.length ≤ 9223372036854775807) :
    Calls Try.prog 30 #[va] w fun e w' => e = .returned (.tuple #[.int .i64 (Soft.leastR A).1, .int .i64 (Soft.leastR A).2]) ∧ Below w.heap.size w w' := by
  have VA := hid (refValid_any w va A hva hA)
  have HA := hid hva
  have HL := hid (show ∀ k, Soft.leastN A (k + 1) = if Soft.mag (A.getD k 0) < Soft.mag (A.getD (Soft.leastN A k) 0) then k else Soft.leastN A k from fun k => rfl)
  obtain ⟨aa, ca, rfl, _⟩ := hva
  rw [List.length_map] at VA HA ⊢
  cases hbA : Soft.bad A with
  | true =>
    rw [Soft.leastR_err (.inl hbA)]
    rw [hbA] at VA
    clear hbA
    go_enter Try.func30, Try.ntmps30
    go_wp2_with (go_at_call 20; refine VA.out.mono ?_; rintro e w1 ⟨rfl, rfl⟩)
    go_ret2
    exact ⟨rfl, Below.refl _ _⟩
  | false =>
    rw [hbA] at VA
    by_cases h0 : A.length = 0
    · rw [Soft.leastR_err (.inr h0)]
      have h00 : ((A.length : Int) == 0) = true := by simp [h0]
      clear hbA h0
      go_enter Try.func30, Try.ntmps30
      go_wp2_with (go_at_call 20; refine VA.out.mono ?_; rintro e w1 ⟨rfl, rfl⟩)
      go_ret2
      exact ⟨rfl, Below.refl _ _⟩
    · rw [Soft.leastR_ok hbA h0]
      have h00 : ((A.length : Int) == 0) = false := by simp; intro h; simp [h] at h0
      have hpos : 0 < A.length := Nat.pos_of_ne_zero h0
      have HbA := hid hbA
      clear hbA h0
      go_enter Try.func30, Try.ntmps30
      go_wp2_with (go_at_call 20; refine VA.out.mono ?_; rintro e w1 ⟨rfl, rfl⟩)
      go_loopw [4, 5] (fun a i wr => ∃ k : Nat, k ≤ A.length ∧ i = .int .i64 k ∧ a = .int .i64 (Soft.leastN A k) ∧ Hid (∃ m, wr = w.drewN m)) (fun _ i _ => A.length - (intOf i).toNat)
      case atStart => exact ⟨0, Nat.zero_le _, rfl, rfl, ⟨0, rfl⟩⟩
      case round =>
        obtain ⟨k, hk, rfl, rfl, hD⟩ := hrel
        by_cases hlt : k < A.length
        · have HV := hid (show Vw wr (.slice aa A.length ca) (A.map (Value.int .i64)) by obtain ⟨m, rfl⟩ := hD.out; exact HA.out.drewN m)
          have hp := Soft.leastN_lt A k A.length hk hpos
          have HLk := hid (HL.out k)
          generalize Soft.leastN A k = p at *
          obtain ⟨b1, o1, c1, e1, hx⟩ := vw_at HV.out hlt
          obtain ⟨b2, o2, c2, e2, hy⟩ := vw_at HV.out hp
          cases e1; cases e2
          have hx0 := Soft.inv_false (Soft.bad_at HbA.out hlt)
          have hy0 := Soft.inv_false (Soft.bad_at HbA.out hp)
          generalize A.getD k 0 = x at *
          generalize A.getD p 0 = y at *
          have hmx : ∃ m, m = Soft.mag x ∧ (if x < -x then -x else x) = m := ⟨_, rfl, by unfold Soft.mag; split <;> split <;> omega⟩
          have hmy : ∃ m, m = Soft.mag y ∧ (if y < -y then -y else y) = m := ⟨_, rfl, by unfold Soft.mag; split <;> split <;> omega⟩
          obtain ⟨mx, hmx1, hmx2⟩ := hmx
          obtain ⟨my, hmy1, hmy2⟩ := hmy
          rw [← hmx1, ← hmy1] at HLk
          have hnx : IntKind.i64.wrap (-x) = -x := IntWalk.i64_in _ (by omega)
          have hny : IntKind.i64.wrap (-y) = -y := IntWalk.i64_in _ (by omega)
          clear hmx1 hmy1
          by_cases hc : mx < my
          · have HLs := hid (show Soft.leastN A (k + 1) = k by rw [HLk.out, if_pos hc])
            have hd : decide (mx < my) = true := by simp [hc]
            clear hc
            go_wp2
            go_quiet (fail)
            go_wp2
            go_roundw
            case rel => exact ⟨k + 1, by omega, by go_num, by rw [HLs.out], drew_of hD.out⟩
            case measure => simp [intOf]; omega
          · have HLs := hid (show Soft.leastN A (k + 1) = p by rw [HLk.out, if_neg hc])
            have hd : decide (mx < my) = false := by simp; omega
            clear hc
            go_wp2
            go_quiet (fail)
            go_wp2
            go_roundw
            case rel => exact ⟨k + 1, by omega, by go_num, by rw [HLs.out], drew_of hD.out⟩
            case measure => simp [intOf]; omega
        · obtain rfl : k = A.length := by omega
          go_wp2
          go_ret2
          exact ⟨rfl, by obtain ⟨m, rfl⟩ := hD.out; exact below_drewN _ m⟩
end Go.Proofs.Ytmbjcpppbgapbaa

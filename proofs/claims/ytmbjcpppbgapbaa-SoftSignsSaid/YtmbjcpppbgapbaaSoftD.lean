/- soft.Compare, soft.Least and the reference's. -/
import Derived.Test.YtmbjcpppbgapbaaSoftS
namespace Go.Proofs.Ytmbjcpppbgapbaa
open Go.RowKit Go.Shelf
set_option linter.unusedVariables false
namespace Soft
theorem cmpR_arg {A B : List Int} (h : bad A = true ∨ A.length ≠ B.length) : cmpR A B = (0, 0, 2) := if_pos h
theorem cmpR_bit {A B : List Int} (h1 : bad A = false) (h2 : A.length = B.length) (h : bbad B = true) : cmpR A B = (0, 0, 3) := by rw [cmpR, if_neg (by simp [h1, h2]), if_pos h]
theorem cmpR_ok {A B : List Int} (h1 : bad A = false) (h2 : A.length = B.length) (h : bbad B = false) : cmpR A B = (wrongN A B A.length, unknownN A A.length, 0) := by
  rw [cmpR, if_neg (by simp [h1, h2]), if_neg (by simp [h])]
theorem leastR_err {A : List Int} (h : bad A = true ∨ A.length = 0) : leastR A = (0, 2) := if_pos h
theorem leastR_ok {A : List Int} (h1 : bad A = false) (h2 : A.length ≠ 0) : leastR A = (leastN A A.length, 0) := if_neg (by simp [h1]; intro h; simp [h] at h2)
theorem bit_of {x : Int} (h : binv x = false) (hw : (Lit.int .u8 x).wf = true) : x = 0 ∨ x = 1 := by
  simp [binv] at h
  simp [Lit.wf, IntKind.min, IntKind.max, IntKind.signed, IntKind.bits] at hw
  omega
theorem sgn01 (v : Int) : sgn v = 0 ∨ sgn v = 1 := by unfold sgn; split <;> simp
end Soft
theorem quiet_left {P : Program} {f : FuncId} {args : Array Value} {w : World} {n : Nat} {v : Value}
    (h : Calls P f args (w.drewN n) fun e w' => e = .returned v ∧ w.drewN n = w') : Calls P f args (w.drewN n) fun e w'' => e = .returned v ∧ ∃ m, w'' = w.drewN m :=
  h.mono fun _ _ ⟨he, hm⟩ => ⟨he, n, hm.symm⟩

set_option maxHeartbeats 1000000 in
theorem compare_any (w : World) (va vb : Value) (A B : List Int) (hva : Vw w va (A.map (Value.int .i64))) (hvb : Vw w vb (B.map (Value.int .u8))) (hA : A.length ≤ 9223372036854775807) (hB : B.length ≤ 9223372036854775807) (hwf : ∀ n ∈ B, (Lit.int .u8 n).wf = true) :
    Calls Try.prog 27 #[va, vb] w fun e w' => e = .returned (.tuple #[.int .i64 (Soft.cmpR A B).1, .int .i64 (Soft.cmpR A B).2.1, .int .i64 (Soft.cmpR A B).2.2]) ∧ Below w.heap.size w w' := by
  have VA := hid (valid_any w va A hva hA)
  have VB := hid (fun w h => binary_any w vb B h hB)
  have HA := hid hva
  have HB := hid hvb
  obtain ⟨aa, ca, rfl, _⟩ := hva
  obtain ⟨ab, cb, rfl, _⟩ := hvb
  rw [List.length_map] at VA HA ⊢
  rw [List.length_map] at VB HB ⊢
  cases hbA : Soft.bad A with
  | true =>
    rw [Soft.cmpR_arg (.inl hbA)]
    rw [hbA] at VA
    clear hbA
    go_enter Try.func27, Try.ntmps27
    go_wp2_with (first
      | (go_at_call 19; refine VA.out.mono ?_; rintro e w1 ⟨rfl, hB1⟩)
      | (go_at_call 34; refine (arg_false _).mono ?_; rintro e w' ⟨rfl, rfl⟩)
      | (go_at_call 43; refine (VB.out _ (HB.out.below hB1 (Nat.le_refl _))).mono ?_; rintro e w' ⟨rfl, rfl⟩)
      | (go_at_call 42; refine (first2_any _ _ _).mono ?_; rintro e w' ⟨rfl, rfl⟩))
    all_goals (go_ret3; exact ⟨rfl, hB1.trans ((below_alloc _ _).mono hB1.size)⟩)
  | false =>
    rw [hbA] at VA
    by_cases hl : A.length = B.length
    · have hle : ((A.length : Int) == (B.length : Int)) = true := by simp [hl]
      cases hbB : Soft.bbad B with
      | true =>
        rw [Soft.cmpR_bit hbA hl hbB]
        rw [hbB] at VB
        clear hbA hbB hl
        go_enter Try.func27, Try.ntmps27
        go_wp2_with (first
          | (go_at_call 19; refine VA.out.mono ?_; rintro e w1 ⟨rfl, hB1⟩)
          | (go_at_call 34; refine (arg_true _).mono ?_; rintro e w' ⟨rfl, rfl⟩)
          | (go_at_call 43; refine (VB.out _ (HB.out.below hB1 (Nat.le_refl _))).mono ?_; rintro e w' ⟨rfl, rfl⟩)
          | (go_at_call 42; refine (first2_any _ _ _).mono ?_; rintro e w' ⟨rfl, rfl⟩))
        all_goals (go_ret3; exact ⟨rfl, hB1.trans ((below_alloc _ _).mono hB1.size)⟩)
      | false =>
        rw [Soft.cmpR_ok hbA hl hbB]
        rw [hbB] at VB
        have HL := hid hl
        have HbB := hid hbB
        have HW := hid hwf
        clear hbA hbB hl hwf
        go_enter Try.func27, Try.ntmps27
        go_wp2_with (first
          | (go_at_call 19; refine VA.out.mono ?_; rintro e w1 ⟨rfl, hB1⟩)
          | (go_at_call 34; refine (arg_true _).mono ?_; rintro e w' ⟨rfl, rfl⟩)
          | (go_at_call 43; refine (VB.out _ (HB.out.below hB1 (Nat.le_refl _))).mono ?_; rintro e w' ⟨rfl, rfl⟩)
          | (go_at_call 42; refine (first2_any _ _ _).mono ?_; rintro e w' ⟨rfl, rfl⟩))
        have hB2 : Below w.heap.size w (w1.alloc (.cells #[.int .i64 0, .int .i64 0] 27)) := hB1.trans ((below_alloc _ _).mono hB1.size)
        generalize w1.alloc _ = W at hB2 ⊢
        have HB2 := hid hB2
        clear hB1 hB2
        go_loopw [4, 5, 28] (fun a b i wr => ∃ k : Nat, k ≤ A.length ∧ i = .int .i64 k ∧ a = .int .i64 (Soft.wrongN A B k) ∧ b = .int .i64 (Soft.unknownN A k) ∧ Hid (∃ m, wr = W.drewN m)) (fun _ _ i _ => A.length - (intOf i).toNat)
        case atStart => exact ⟨0, Nat.zero_le _, rfl, rfl, rfl, ⟨0, rfl⟩⟩
        case round =>
          obtain ⟨k, hk, rfl, rfl, rfl, hD⟩ := hrel
          by_cases hlt : k < A.length
          · have hBr : Below w.heap.size w wr := by obtain ⟨m, rfl⟩ := hD.out; exact HB2.out.trans ((below_drewN _ m).mono HB2.out.size)
            obtain ⟨b1, o1, c1, e1, hx⟩ := vw_at (HA.out.below hBr (Nat.le_refl _)) hlt
            have hlt2 : k < B.length := by have := HL.out; omega
            have hmB : B.length ≤ 9223372036854775807 := hB
            obtain ⟨b2, o2, c2, e2, hy⟩ := vw_at (HB.out.below hBr (Nat.le_refl _)) hlt2
            cases e1; cases e2
            have hybit := Soft.bit_of (Soft.bbad_at HbB.out hlt2) (HW.out (B.getD k 0) (by simp [List.getD, hlt2]))
            have HW1 := hid (show Soft.wrongN A B (k + 1) = Soft.wrongN A B k + (if A.getD k 0 = 0 then 0 else if Soft.sgn (A.getD k 0) = B.getD k 0 then 0 else 1) from rfl)
            have HU1 := hid (show Soft.unknownN A (k + 1) = Soft.unknownN A k + (if A.getD k 0 = 0 then 1 else 0) from rfl)
            have hp := Soft.wrongN_le A B k
            have hq := Soft.unknownN_le A k
            have C := hid (fun w => sign_any (A.getD k 0) w)
            have hs01 := Soft.sgn01 (A.getD k 0)
            generalize A.getD k 0 = x at *
            generalize B.getD k 0 = y at *
            generalize Soft.wrongN A B k = p at *
            generalize Soft.unknownN A k = q at *
            clear hBr
            by_cases hx0 : x = 0
            · subst hx0
              have HW2 := hid (show Soft.wrongN A B (k + 1) = p by rw [HW1.out]; simp)
              have HU2 := hid (show Soft.unknownN A (k + 1) = q + 1 by rw [HU1.out]; simp)
              clear HW1 HU1 hybit hs01
              go_wp2
              go_roundw
              case rel => exact ⟨k + 1, by omega, by go_num, by rw [HW2.out], by rw [HU2.out]; go_num, hD⟩
              case measure => simp [intOf]; omega
            · have hxb : (x == 0) = false := by simp [hx0]
              generalize Soft.sgn x = s at *
              by_cases hsy : s = y
              · subst hsy
                have HW2 := hid (show Soft.wrongN A B (k + 1) = p by rw [HW1.out, if_neg hx0, if_pos rfl, Nat.add_zero])
                have HU2 := hid (show Soft.unknownN A (k + 1) = q by rw [HU1.out, if_neg hx0]; rfl)
                have hss : ((s : Int) != s) = false := by simp
                clear HW1 HU1 hx0
                go_wp2
                go_quiet ((go_at_call 41; exact quiet_left (C.out _)))
                go_wp2
                go_roundw
                case rel => exact ⟨k + 1, by omega, by go_num, by rw [HW2.out], by rw [HU2.out], by obtain ⟨m, rfl⟩ := hD.out; exact ⟨m + nq, by simp [World.drewN_drewN]⟩⟩
                case measure => simp [intOf]; omega
              · have HW2 := hid (show Soft.wrongN A B (k + 1) = p + 1 by rw [HW1.out, if_neg hx0, if_neg hsy])
                have HU2 := hid (show Soft.unknownN A (k + 1) = q by rw [HU1.out, if_neg hx0]; rfl)
                have hss : ((s : Int) != y) = true := by simp [hsy]
                clear HW1 HU1 hx0 hsy
                go_wp2
                go_quiet ((go_at_call 41; exact quiet_left (C.out _)))
                go_wp2
                go_roundw
                case rel => exact ⟨k + 1, by omega, by go_num, by rw [HW2.out]; go_num, by rw [HU2.out], by obtain ⟨m, rfl⟩ := hD.out; exact ⟨m + nq, by simp [World.drewN_drewN]⟩⟩
                case measure => simp [intOf]; omega
          · obtain rfl : k = A.length := by omega
            go_wp2
            go_ret3
            exact ⟨rfl, by obtain ⟨m, rfl⟩ := hD.out; exact HB2.out.trans ((below_drewN _ m).mono HB2.out.size)⟩
    · rw [Soft.cmpR_arg (.inr hl)]
      have hle : ((A.length : Int) == (B.length : Int)) = false := by simp; omega
      clear hbA hl
      go_enter Try.func27, Try.ntmps27
      go_wp2_with (first
        | (go_at_call 19; refine VA.out.mono ?_; rintro e w1 ⟨rfl, hB1⟩)
        | (go_at_call 34; refine (arg_false _).mono ?_; rintro e w' ⟨rfl, rfl⟩)
        | (go_at_call 43; refine (VB.out _ (HB.out.below hB1 (Nat.le_refl _))).mono ?_; rintro e w' ⟨rfl, rfl⟩)
        | (go_at_call 42; refine (first2_any _ _ _).mono ?_; rintro e w' ⟨rfl, rfl⟩))
      all_goals (go_ret3; exact ⟨rfl, hB1.trans ((below_alloc _ _).mono hB1.size)⟩)
end Go.Proofs.Ytmbjcpppbgapbaa

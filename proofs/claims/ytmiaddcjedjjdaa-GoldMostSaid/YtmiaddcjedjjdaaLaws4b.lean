/- userplanelaw04: GoldApart, GoldMost. -/
import Derived.Test.YtmiaddcjedjjdaaLaws4a
namespace Go.Proofs.Ytmiaddcjedjjdaa
open Go.RowKit Go.Shelf
set_option linter.unusedVariables false

set_option maxHeartbeats 1000000 in
theorem law_GoldApart (a b : Int) (w0 : (Lit.int .u32 a).wf = true) (w1 : (Lit.int .u32 b).wf = true) (w : World) :
    Calls Try.prog 7 #[.int .u32 a, .int .u32 b] w fun e w' => e = .returned (.bool true) ∧ Below w.heap.size w w' := by
  obtain ⟨a, rfl, ha⟩ := wf_u32 w0
  obtain ⟨b, rfl, hb⟩ := wf_u32 w1
  clear w0 w1
  have C0 := hid (fun w => sequence_any w a ha 31)
  have C1 := hid (fun w => sequence_any w b hb 31)
  by_cases h1 : 2147483648 ≤ a
  · have e1 : Scr.seqR a 31 = ([], 2) := Scr.seqR_err (by omega)
    rw [e1] at C0
    generalize Scr.seqR b 31 = R at C1
    clear e1 h1
    go_enter Try.func7, Try.ntmps7
    go_wp2_with fail
    refine (C0.out _).mono ?_
    rintro e w1 ⟨⟨v1, rfl, hown1⟩, hB1⟩
    go_wp2_with fail
    refine (C1.out _).mono ?_
    rintro e w2 ⟨⟨v2, rfl, hown2⟩, hB2⟩
    go_wp2_with (go_at_call 14; refine (known4 _).mono ?_; rintro e w4 ⟨rfl, hB4⟩)
    go_ret
    exact ⟨rfl, below_then (below_then hB1 hB2) hB4⟩
  · have e1 : Scr.seqR a 31 = (Scr.seqL a 31, 0) := Scr.seqR_ok (by omega) (n := 31) (by omega)
    rw [e1] at C0
    by_cases h2 : 2147483648 ≤ b
    · have e2 : Scr.seqR b 31 = ([], 2) := Scr.seqR_err (by omega)
      rw [e2] at C1
      generalize Scr.seqL a 31 = L at C0
      clear e1 h1 e2 h2
      go_enter Try.func7, Try.ntmps7
      go_wp2_with fail
      refine (C0.out _).mono ?_
      rintro e w1 ⟨⟨v1, rfl, hown1⟩, hB1⟩
      go_wp2_with fail
      refine (C1.out _).mono ?_
      rintro e w2 ⟨⟨v2, rfl, hown2⟩, hB2⟩
      go_wp2_with (go_at_call 14; refine (known4 _).mono ?_; rintro e w4 ⟨rfl, hB4⟩)
      go_ret
      exact ⟨rfl, below_then (below_then hB1 hB2) hB4⟩
    · have e2 : Scr.seqR b 31 = (Scr.seqL b 31, 0) := Scr.seqR_ok (by omega) (n := 31) (by omega)
      rw [e2] at C1
      have HE := hid (Scr.seqL_inj (a := a) (b := b) (by omega) (by omega))
      have hl1 := hid (Scr.seqL_len a 31)
      have hl2 := hid (Scr.seqL_len b 31)
      generalize Scr.seqL a 31 = A at C0 HE hl1
      generalize Scr.seqL b 31 = B at C1 HE hl2
      clear e1 h1 e2 h2
      generalize hab : ((a : Int) == (b : Int)) = p at HE
      have hpp : (p == p) = true := by simp
      go_enter Try.func7, Try.ntmps7
      go_wp2_with fail
      refine (C0.out _).mono ?_
      rintro e w1 ⟨⟨v1, rfl, hown1⟩, hB1⟩
      go_wp2_with fail
      refine (C1.out _).mono ?_
      rintro e w2 ⟨⟨v2, rfl, hown2⟩, hB2⟩
      go_wp2_with (first
        | (go_at_call 16; refine (sameB_any _ _ _ _ _ (hown1.vw.below hB2 (Nat.le_refl _)) hown2.vw (by rw [hl1.out]; omega) (by rw [hl2.out]; omega)).mono ?_; rintro e w3 ⟨rfl, n, rfl⟩; rw [HE.out])
        | (go_at_call 14; refine (known4 _).mono ?_; rintro e w4 ⟨rfl, hB4⟩))
      go_ret
      exact ⟨rfl, below_then (below_then (below_then hB1 hB2) (below_drewN _ n)) hB4⟩

set_option maxHeartbeats 1000000 in
theorem law_GoldMost (i m : Int) (w0 : (Lit.int .u32 i).wf = true) (w1 : (Lit.int .i64 m).wf = true) (w : World) :
    Calls Try.prog 11 #[.int .u32 i, .int .i64 m] w fun e w' => e = .returned (.bool true) ∧ Below w.heap.size w w' := by
  obtain ⟨i, rfl, hi⟩ := wf_u32 w0
  clear w0 w1
  by_cases h1 : m < 1
  · go_enter Try.func11, Try.ntmps11
    go_wp2_with (go_at_call 14; refine (known4 _).mono ?_; rintro e w4 ⟨rfl, hB4⟩)
    go_ret
    exact ⟨rfl, hB4⟩
  by_cases h2 : 100 < m
  · go_enter Try.func11, Try.ntmps11
    go_wp2_with (go_at_call 14; refine (known4 _).mono ?_; rintro e w4 ⟨rfl, hB4⟩)
    go_ret
    exact ⟨rfl, hB4⟩
  by_cases h3 : 2147483648 ≤ i
  · have hd : decide (2147483648 ≤ (i : Int)) = true := by simp; omega
    go_enter Try.func11, Try.ntmps11
    go_wp2_with (go_at_call 14; refine (known4 _).mono ?_; rintro e w4 ⟨rfl, hB4⟩)
    go_ret
    exact ⟨rfl, hB4⟩
  · have hd : decide (2147483648 ≤ (i : Int)) = false := by simp; omega
    obtain ⟨m, rfl⟩ := Int.eq_ofNat_of_zero_le (show 0 ≤ m by omega)
    have hm1 : 1 ≤ m := by omega
    have hm2 : m ≤ 100 := by omega
    have C0 := hid (fun w => sequence_any w i hi (131072 + (m : Int)))
    have e0 : Scr.seqR i (131072 + (m : Int)) = ([], 2) := Scr.seqR_err (by omega)
    rw [e0] at C0
    have C1 := hid (fun w v h => scramble_any w v i hi (List.replicate (131072 + m) 0) h (by simp; omega) (by intro x hx; rw [(List.mem_replicate.1 hx).2]; rfl))
    have e1 : Scr.bR i (List.replicate (131072 + m) 0) = ([], 4) := by
      unfold Scr.bR; rw [if_neg h3, List.length_replicate, if_pos (by omega)]
    rw [e1] at C1
    have C2 := hid (fun w v h => scrambleSoft_any w v i hi (List.replicate (131072 + m) 0) h (by simp; omega) (by intro x hx; rw [(List.mem_replicate.1 hx).2]; rfl))
    have e2 : Scr.iR i (List.replicate (131072 + m) 0) = ([], 4) := by
      unfold Scr.iR; rw [if_neg h3, List.length_replicate, if_pos (by omega)]
    rw [e2] at C2
    clear e0 e1 e2 h1 h2 h3
    go_enter Try.func11, Try.ntmps11
    go_wp2_with fail
    refine (C0.out _).mono ?_
    rintro e w1 ⟨⟨v1, rfl, hown1⟩, hB1⟩
    go_wp2_with (first
      | (at_make; refine wpList_run_value rfl (exec_make_one elem_b (.tmp 32) (.tmp 32) rfl .i64 .i64 _ _ (131072 + m) (131072 + m) rfl rfl (by omega) (by omega) (Nat.le_refl _) (by omega) (by omega)) ?_))
    refine (C1.out _ _ (by rw [List.map_replicate]; exact (OwnL.zeros w1 w1.heap.size 5 (131072 + m) (.int .u8 0) (Nat.le_refl _) (by omega)).vw)).mono ?_
    rintro e w2 ⟨⟨v2, rfl, hown2⟩, hB2⟩
    go_wp2_with (first
      | (at_make; refine wpList_run_value rfl (exec_make_one elem_i (.tmp 40) (.tmp 40) rfl .i64 .i64 _ _ (131072 + m) (131072 + m) rfl rfl (by omega) (by omega) (Nat.le_refl _) (by omega) (by omega)) ?_))
    refine (C2.out _ _ (by rw [List.map_replicate]; exact (OwnL.zeros w2 w2.heap.size 3 (131072 + m) (.int .i64 0) (Nat.le_refl _) (by omega)).vw)).mono ?_
    rintro e w3 ⟨⟨v3, rfl, hown3⟩, hB3⟩
    go_wp2_with (go_at_call 14; refine (known4 _).mono ?_; rintro e w4 ⟨rfl, hB4⟩)
    go_ret
    exact ⟨rfl, below_then (below_then (below_then (below_then (below_then hB1 (below_alloc _ _)) hB2) (below_alloc _ _)) hB3) hB4⟩

end Go.Proofs.Ytmiaddcjedjjdaa

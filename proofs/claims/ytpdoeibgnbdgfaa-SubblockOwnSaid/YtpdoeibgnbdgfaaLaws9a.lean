/- userplanelaw09: walks of the laws on integers. -/
import Derived.Test.YtpdoeibgnbdgfaaKnown9
import Derived.Test.YtpdoeibgnbdgfaaOnce9
namespace Go.Proofs.Ytpdoeibgnbdgfaa
open Go.RowKit Go.Shelf
set_option linter.unusedVariables false

theorem wf64 {x : Int} (h : (Lit.int .i64 x).wf = true) : -9223372036854775808 ≤ x ∧ x ≤ 9223372036854775807 := by
  simpa [Lit.wf, IntKind.min, IntKind.max, IntKind.signed, IntKind.bits] using h

set_option maxHeartbeats 1000000 in
theorem law_SubblockOrders (d s : Int) (wd : (Lit.int .i64 d).wf = true) (ws : (Lit.int .i64 s).wf = true) (w : World) :
    Calls Try.prog 3 #[.int .i64 d, .int .i64 s] w fun e w' => e = .returned (.bool true) ∧ Below w.heap.size w w' := by
  clear wd ws
  by_cases h : d < 1 ∨ 6148 < d ∨ s < 0 ∨ 2 < s
  · have H := hid h
    clear h
    go_enter Try.func3, Try.ntmps3
    go_wp2_with (first
      | (go_at_call 11; refine (order_err _ _ H.out _).mono ?_; rintro e w1 ⟨rfl, hB1⟩)
      | (go_at_call 12; refine (refOrder_err _ _ H.out _).mono ?_; rintro e w2 ⟨rfl, rfl⟩)
      | (go_at_call 13; refine (same_any _ _ _ [] [] (Vw.nil _ _ _) (Vw.nil _ _ _) (by simp) (by simp)).mono ?_; rintro e w3 ⟨rfl, n, rfl⟩)
      | (go_at_call 14; refine (known_true _).mono ?_; rintro e w4 ⟨rfl, hB4⟩))
    go_ret
    exact ⟨rfl, below_then (below_then (below_then hB1 (below_drewN _ n)) hB4) (below_refl _)⟩
  · obtain ⟨d, rfl⟩ := Int.eq_ofNat_of_zero_le (show 0 ≤ d by omega)
    obtain ⟨R, hR⟩ : ∃ R : Nat, R = (d + 31) / 32 := ⟨_, rfl⟩
    have H1 := hid (fun w => order_ok d R s (by omega) (by omega) (by omega) (by omega) (by omega) (by omega) w)
    have H2 := hid (fun w => refOrder_ok d R s (by omega) (by omega) (by omega) (by omega) (by omega) (by omega) w)
    have hlen : (Ord.outL d R s (32 * R)).length ≤ 9223372036854775807 := by rw [Ord.outL_len]; omega
    have HL := hid hlen
    clear hlen hR h
    go_enter Try.func3, Try.ntmps3
    go_wp2_with (first
      | (go_at_call 11; refine (H1.out _).mono ?_; rintro e w1 ⟨v1, rfl, hown1, hB1⟩)
      | (go_at_call 12; refine (H2.out _).mono ?_; rintro e w2 ⟨v2, rfl, hown2, hB2⟩)
      | (go_at_call 13; refine (same_any _ _ _ _ _ (hown1.vw.below hB2 (Nat.le_refl _)) hown2.vw HL.out HL.out).mono ?_; rintro e w3 ⟨rfl, n, rfl⟩)
      | (go_at_call 14; refine (known_true _).mono ?_; rintro e w4 ⟨rfl, hB4⟩))
    go_ret
    exact ⟨rfl, below_then (below_then (below_then hB1 hB2) (below_drewN _ n)) hB4⟩

theorem col_inv : ∀ k, k < 32 → Cols.perm.getD (Cols.perm.getD k 0).toNat 0 = (k : Int) := by decide +kernel

set_option maxHeartbeats 1000000 in
theorem law_SubblockColumns (k d : Int) (wd : (Lit.int .i64 k).wf = true) (ws : (Lit.int .i64 d).wf = true) (w : World) :
    Calls Try.prog 5 #[.int .i64 k, .int .i64 d] w fun e w' => e = .returned (.bool true) ∧ Below w.heap.size w w' := by
  clear wd ws
  by_cases h : k < 0 ∨ 31 < k
  · have C1 := hid (fun w => column_any k w)
    have C2 := hid (fun w => refColumn_any k w)
    rw [Cols.colZ_out h] at C1 C2
    clear h
    go_enter Try.func5, Try.ntmps5
    go_wp2_with (first
      | (go_at_call 16; refine (C1.out _).mono ?_; rintro e w1 ⟨rfl, hB1⟩)
      | (go_at_call 17; refine (C2.out _).mono ?_; rintro e w2 ⟨rfl, hB2⟩)
      | (go_at_call 15; refine (rows_any _ _).mono ?_; rintro e w3 ⟨rfl, rfl⟩)
      | (go_at_call 18; refine (refRows_any _ _).mono ?_; rintro e w3 ⟨rfl, rfl⟩)
      | (go_at_call 14; refine (known_true _).mono ?_; rintro e w4 ⟨rfl, hB4⟩))
    go_ret
    exact ⟨rfl, below_then (below_then hB1 hB2) hB4⟩
  · obtain ⟨n, rfl⟩ := Int.eq_ofNat_of_zero_le (show 0 ≤ k by omega)
    have hn : n < 32 := by omega
    have hbd := Cols.perm_bd n hn
    obtain ⟨q, hq⟩ : ∃ q : Nat, Cols.perm.getD n 0 = (q : Int) := ⟨(Cols.perm.getD n 0).toNat, by omega⟩
    have hinv := col_inv n hn
    rw [hq] at hinv hbd
    rw [Int.toNat_natCast] at hinv
    have C1 := hid (fun w => column_any n w)
    have C2 := hid (fun w => refColumn_any n w)
    have C3 := hid (fun w => column_any q w)
    rw [Cols.colZ_in (by omega) (by omega), Int.toNat_natCast, hq] at C1 C2
    rw [Cols.colZ_in (by omega) (by omega), Int.toNat_natCast, hinv] at C3
    clear h hq hinv
    go_enter Try.func5, Try.ntmps5
    go_wp2_with fail
    refine (C1.out _).mono ?_
    rintro e w1 ⟨rfl, hB1⟩
    go_wp2_with (first
      | (go_at_call 17; refine (C2.out _).mono ?_; rintro e w2 ⟨rfl, hB2⟩)
      | (go_at_call 15; refine (rows_any _ _).mono ?_; rintro e w3 ⟨rfl, rfl⟩)
      | (go_at_call 18; refine (refRows_any _ _).mono ?_; rintro e w3 ⟨rfl, rfl⟩))
    refine (C3.out _).mono ?_
    rintro e w3 ⟨rfl, hB3⟩
    go_wp2_with (go_at_call 14; refine (known_true _).mono ?_; rintro e w4 ⟨rfl, hB4⟩)
    go_ret
    exact ⟨rfl, below_then (below_then (below_then hB1 hB2) hB3) hB4⟩

set_option maxHeartbeats 2000000 in
theorem law_SubblockShifts (d : Int) (wd : (Lit.int .i64 d).wf = true) (w : World) :
    Calls Try.prog 6 #[.int .i64 d] w fun e w' => e = .returned (.bool true) ∧ Below w.heap.size w w' := by
  clear wd
  by_cases h : d < 1 ∨ 6148 < d
  · have C0 := hid (fun w => order_err d 0 (by omega) w)
    have C1 := hid (fun w => order_err d 1 (by omega) w)
    have C2 := hid (fun w => order_err d 2 (by omega) w)
    clear h
    go_enter Try.func6, Try.ntmps6
    go_wp2_with fail
    refine (C0.out _).mono ?_
    rintro e w1 ⟨rfl, hB1⟩
    go_wp2_with fail
    refine (C1.out _).mono ?_
    rintro e w2 ⟨rfl, hB2⟩
    go_wp2_with fail
    refine (C2.out _).mono ?_
    rintro e w3 ⟨rfl, hB3⟩
    go_wp2_with (go_at_call 14; refine (known_true _).mono ?_; rintro e w4 ⟨rfl, hB4⟩)
    go_ret
    exact ⟨rfl, below_then (below_then (below_then hB1 hB2) hB3) hB4⟩
  · obtain ⟨d, rfl⟩ := Int.eq_ofNat_of_zero_le (show 0 ≤ d by omega)
    obtain ⟨R, hR⟩ : ∃ R : Nat, R = (d + 31) / 32 := ⟨_, rfl⟩
    have hR1 : d ≤ 32 * R := by omega
    have hRb : R ≤ 193 := by omega
    have hd0 : 1 ≤ d := by omega
    have C0 := hid (fun w => order_ok d R 0 (by omega) (by omega) (by omega) (by omega) (by omega) (by omega) w)
    have C1 := hid (fun w => order_ok d R 1 (by omega) (by omega) (by omega) (by omega) (by omega) (by omega) w)
    have C2 := hid (fun w => order_ok d R 2 (by omega) (by omega) (by omega) (by omega) (by omega) (by omega) w)
    rw [← Ord.outL_01] at C1
    have HL := hid (show (Ord.outL d R 0 (32 * R)).length ≤ 9223372036854775807 by rw [Ord.outL_len]; omega)
    clear hR h
    go_enter Try.func6, Try.ntmps6
    go_wp2_with fail
    refine (C0.out _).mono ?_
    rintro e w1 ⟨v1, rfl, hown1, hB1⟩
    obtain ⟨g1, cap1, rfl⟩ := hown1.shape (32 * R) (by simp [Ord.outL_len]) (by omega)
    go_wp2_with fail
    refine (C1.out _).mono ?_
    rintro e w2 ⟨v2, rfl, hown2, hB2⟩
    obtain ⟨g2, cap2, rfl⟩ := hown2.shape (32 * R) (by simp [Ord.outL_len]) (by omega)
    go_wp2_with fail
    refine (C2.out _).mono ?_
    rintro e w3 ⟨v3, rfl, hown3, hB3⟩
    obtain ⟨g3, cap3, rfl⟩ := hown3.shape (32 * R) (by simp [Ord.outL_len]) (by omega)
    go_wp2_with (go_at_call 13; refine (same_any _ _ _ _ _ ((hown1.vw.below hB2 (Nat.le_refl _)).below hB3 (Nat.le_refl _)) (hown2.vw.below hB3 (Nat.le_refl _)) HL.out HL.out).mono ?_; rintro e w4 ⟨rfl, n, rfl⟩)
    have HA := hid (show ∀ k, k < 32 * R → w3.cell? ⟨g1, k, none⟩ = some (.int .i64 (Ord.ordF d R 0 k)) from fun k hk => by
      rw [hB3.cell (p := ⟨g1, k, none⟩) (Nat.lt_of_lt_of_le (hown1.block (g := g1) rfl).2 hB2.size), hB2.cell (p := ⟨g1, k, none⟩) (hown1.block (g := g1) rfl).2, hown1.at k (by simp [Ord.outL_len, hk])]; simp [Ord.outL])
    have HC := hid (show ∀ k, k < 32 * R → w3.cell? ⟨g3, k, none⟩ = some (.int .i64 (Ord.ordF d R 2 k)) from fun k hk => by
      rw [hown3.at k (by simp [Ord.outL_len, hk])]; simp [Ord.outL])
    have hB := below_then (below_then hB1 hB2) hB3
    clear hown1 hown2 hown3 hB1 hB2 hB3
    go_loopw [9] (fun i wr => ∃ k m : Nat, k ≤ 32 * R ∧ i = .int .i64 k ∧ wr = w3.drewN m) (fun i _ => 32 * R - (intOf i).toNat)
    case atStart => exact ⟨0, n, Nat.zero_le _, rfl, rfl⟩
    case round =>
      obtain ⟨k, m, hk, rfl, rfl⟩ := hrel
      by_cases hlt : k < 32 * R
      · have hx := HA.out k hlt
        have hy := HC.out k hlt
        have hbx := Ord.ordF_bd (s := 0) hR1 hlt
        have hby := Ord.ordF_bd (s := 2) hR1 hlt
        have hs := fun h0 h1 => Ord.ord_shift hR1 hlt h0 h1
        generalize Ord.ordF d R 0 k = x at hx hbx hs
        generalize Ord.ordF d R 2 k = y at hy hby hs
        by_cases hc : 0 ≤ x ∧ x < (d : Int) - 1
        · obtain rfl := hs hc.1 hc.2
          clear hs
          obtain ⟨hc0, hc1⟩ := hc
          have hd1 : decide (0 ≤ x) = true := by simp [hc0]
          have hd2 : decide (x < (d : Int) - 1) = true := by simp [hc1]
          have hd3 : IntKind.i64.wrap ((d : Int) - 1) = (d : Int) - 1 := IntWalk.i64_in _ (by omega)
          have hd4 : IntKind.i64.wrap (x + 1) = x + 1 := IntWalk.i64_in _ (by omega)
          have hd5 : ((x + 1 : Int) != x + 1) = false := by simp
          go_wp2
          go_quiet (fail)
          go_wp2
          go_roundw
          case rel => exact ⟨k + 1, m + nq, by omega, by go_num, by simp [World.drewN_drewN]⟩
          case measure => simp [intOf]; omega
        · clear hs
          by_cases hc0 : 0 ≤ x
          · have hc1 : ¬ x < (d : Int) - 1 := fun h => hc ⟨hc0, h⟩
            have hd1 : decide (0 ≤ x) = true := by simp [hc0]
            have hd2 : decide (x < (d : Int) - 1) = false := by simp; omega
            have hd3 : IntKind.i64.wrap ((d : Int) - 1) = (d : Int) - 1 := IntWalk.i64_in _ (by omega)
            clear hc
            go_wp2
            go_quiet (fail)
            go_wp2
            go_roundw
            case rel => exact ⟨k + 1, m + nq, by omega, by go_num, by simp [World.drewN_drewN]⟩
            case measure => simp [intOf]; omega
          · have hd1 : decide (0 ≤ x) = false := by simp; omega
            clear hc
            go_wp2
            go_quiet (fail)
            go_wp2
            go_roundw
            case rel => exact ⟨k + 1, m + nq, by omega, by go_num, by simp [World.drewN_drewN]⟩
            case measure => simp [intOf]; omega
      · go_wp2_with (go_at_call 14; refine (known_true _).mono ?_; rintro e w4 ⟨rfl, hB4⟩)
        go_ret
        exact ⟨rfl, below_then (below_then hB (below_drewN _ m)) hB4⟩
end Go.Proofs.Ytpdoeibgnbdgfaa

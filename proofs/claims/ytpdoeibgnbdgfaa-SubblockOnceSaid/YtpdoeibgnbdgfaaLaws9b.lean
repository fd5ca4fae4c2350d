/- userplanelaw09.SubblockOnce: the walk. -/
import Derived.Test.YtpdoeibgnbdgfaaLaws9a
namespace Go.Proofs.Ytpdoeibgnbdgfaa
open Go.RowKit Go.Shelf
set_option linter.unusedVariables false

set_option maxHeartbeats 2000000 in
theorem law_SubblockOnce (d s : Int) (wd : (Lit.int .i64 d).wf = true) (ws : (Lit.int .i64 s).wf = true) (w : World) :
    Calls Try.prog 4 #[.int .i64 d, .int .i64 s] w fun e w' => e = .returned (.bool true) ∧ Below w.heap.size w w' := by
  clear wd ws
  by_cases h : d < 1 ∨ 6148 < d ∨ s < 0 ∨ 2 < s
  · have C0 := hid (fun w => order_err d s h w)
    clear h
    go_enter Try.func4, Try.ntmps4
    go_wp2_with (first
      | (go_at_call 11; refine (C0.out _).mono ?_; rintro e w1 ⟨rfl, hB1⟩)
      | (go_at_call 14; refine (known_true _).mono ?_; rintro e w4 ⟨rfl, hB4⟩))
    go_ret
    exact ⟨rfl, below_then hB1 hB4⟩
  · obtain ⟨d, rfl⟩ := Int.eq_ofNat_of_zero_le (show 0 ≤ d by omega)
    obtain ⟨R, hR⟩ : ∃ R : Nat, R = (d + 31) / 32 := ⟨_, rfl⟩
    have hR1 : d ≤ 32 * R := by omega
    have hR2 : 32 * R < d + 32 := by omega
    have hRb : R ≤ 193 := by omega
    have hd0 : 1 ≤ d := by omega
    have hd1 : d ≤ 6148 := by omega
    have C0 := hid (fun w => order_ok d R s hd0 hd1 hR1 hR2 (by omega) (by omega) w)
    have hrz : Cols.rowsZ d = (R : Int) := by rw [Cols.rowsZ_in (by omega) (by omega)]; omega
    have C1 := hid (fun w => rows_any d w)
    rw [hrz] at C1
    clear hR h hrz
    go_enter Try.func4, Try.ntmps4
    go_wp2_with (first
      | (go_at_call 11; refine (C0.out _).mono ?_; rintro e w1 ⟨v1, rfl, hown1, hB1⟩; obtain ⟨g1, cap1, rfl⟩ := hown1.shape (32 * R) (by simp [Ord.outL_len]) (by omega))
      | (go_at_call 15; refine (C1.out _).mono ?_; rintro e w2 ⟨rfl, rfl⟩)
      | (at_make; refine wpList_run_value rfl (exec_make_one elem_int (.tmp 40) (.tmp 40) rfl .i64 .i64 _ _ d d rfl rfl rfl rfl (Nat.le_refl _) (by omega) (by omega)) ?_))
    have HA := hid (show ∀ k, k < 32 * R → w1.cell? ⟨g1, k, none⟩ = some (.int .i64 (Ord.ordF d R s k)) from fun k hk => by
      rw [hown1.at k (by simp [Ord.outL_len, hk])]; simp [Ord.outL])
    have hg1 := (hown1.block (g := g1) rfl).2
    have hz := OwnL.zeros w1 w1.heap.size 3 d (.int .i64 0) (Nat.le_refl _) (by omega)
    rw [show List.replicate d (Value.int .i64 0) = (Ord.seenL d R s 0).map (Value.int .i64) by rw [Ord.seenL_zero, List.map_replicate]] at hz
    clear hown1
    go_loopw [8, 9] (fun c i wr => ∃ k : Nat, k ≤ 32 * R ∧ i = .int .i64 k ∧ c = .int .i64 (Ord.often d R s k (-1) : Nat) ∧ OwnL wr w1.heap.size 3 (.slice (some ⟨w1.heap.size, 0, none⟩) d d) ((Ord.seenL d R s k).map (Value.int .i64)) ∧ Below w1.heap.size w1 wr) (fun _ i _ => 32 * R - (intOf i).toNat)
    case atStart => exact ⟨0, Nat.zero_le _, rfl, rfl, hz, below_alloc _ _⟩
    case round =>
      clear hz
      obtain ⟨k, hk, rfl, rfl, hown, hB⟩ := hrel
      by_cases hlt : k < 32 * R
      · have hx := (hB.cell (p := ⟨g1, k, none⟩) hg1).trans (HA.out k hlt)
        have hbx := Ord.ordF_bd (s := s) hR1 hlt
        have hle := Ord.often_le d R s k (-1)
        have HS := hid (Ord.often_succ d R s k (-1))
        obtain ⟨x, hX⟩ : ∃ x, x = Ord.ordF d R s k := ⟨_, rfl⟩
        rw [← hX] at hx hbx HS
        have HX := hid hX
        clear hX
        by_cases hx0 : x < 0
        · obtain rfl : x = -1 := by omega
          have HM := hid (Ord.seenL_miss (d := d) (R := R) (s := s) (n := k) HX.out.symm)
          obtain ⟨c, hc⟩ : ∃ c, c = Ord.often d R s k (-1) := ⟨_, rfl⟩
          rw [← hc] at hle HS ⊢
          clear hc
          go_wp2
          go_roundw
          case rel => exact ⟨k + 1, by omega, by go_num, by rw [HS.out]; simp, by rw [HM.out]; exact hown, hB⟩
          case measure => simp [intOf]; omega
        · obtain ⟨i, rfl⟩ := Int.eq_ofNat_of_zero_le (show 0 ≤ x by omega)
          have hi : i < d := by omega
          have hcell := hown.at i (by simp [Ord.seenL_len, hi])
          have hfr := hown.free i
          have hg := Ord.seenL_get (R := R) (s := s) (n := k) hi
          have HH := hid (Ord.seenL_hit (n := k) HX.out.symm hi)
          have hle2 := Ord.often_le d R s k (i : Int)
          obtain ⟨c, hc⟩ : ∃ c, c = Ord.often d R s k (i : Int) := ⟨_, rfl⟩
          rw [show ((Ord.seenL d R s k).map (Value.int .i64))[i]'(by simp [Ord.seenL_len, hi]) = .int .i64 (c : Int) by rw [hc, ← hg]; simp [List.getD, Ord.seenL_len, hi]] at hcell
          rw [← hc] at HH hle2
          have hle3 : c ≤ 32 * R := by omega
          have Hown := hid hown
          have hne : ¬ ((i : Int) = -1) := by omega
          rw [if_neg hne] at HS
          clear hc hg hown hne
          go_wp2
          go_roundw
          case rel => exact ⟨k + 1, by omega, by go_num, by rw [HS.out]; simp, by have := Hown.out.stored i (.int .i64 ((c : Int) + 1)); rw [← List.map_set, HH.out] at this; exact this, hB.setCell (p := ⟨w1.heap.size, i, none⟩) (Nat.le_refl _) _⟩
          case measure => simp [intOf]; omega
      · obtain rfl : k = 32 * R := by omega
        have HOne := hid (show ∀ i, i < d → wr.cell? ⟨w1.heap.size, i, none⟩ = some (.int .i64 1) from fun i hi => by
          rw [hown.at i (by simp [Ord.seenL_len, hi])]
          have hg := Ord.seenL_get (R := R) (s := s) (n := 32 * R) hi
          rw [Ord.often_one hR1 hi] at hg
          simp [List.getD, Ord.seenL_len, hi] at hg
          simp [hg])
        rw [Ord.often_dummy hR1]
        clear hown
        have hdec : decide (((32 * R : Nat) : Int) < 32 * (R : Int)) = false := by simp
        go_wp2
        go_loop [10] (fun i => ∃ k : Nat, k ≤ d ∧ i = .int .i64 k) (fun i => d - (intOf i).toNat)
        case atStart => exact ⟨0, Nat.zero_le _, rfl⟩
        case round =>
          obtain ⟨i, hi, rfl⟩ := hrel
          by_cases hid' : i < d
          · have hc1 := HOne.out i hid'
            go_wp2
            go_round
            case rel => exact ⟨i + 1, by omega, by go_num⟩
            case measure => simp [intOf]; omega
          · obtain rfl : i = d := by omega
            have hcast : ((32 * R - i : Nat) : Int) = 32 * (R : Int) - (i : Int) := by omega
            have he1 : ((32 * (R : Int) - (i : Int)) == 32 * (R : Int) - (i : Int)) = true := by simp
            have he2 : decide (32 * (R : Int) - (i : Int) < 32) = true := by simp; omega
            go_wp2_with (go_at_call 14; refine (known_true _).mono ?_; rintro e w4 ⟨rfl, hB4⟩)
            go_ret
            exact ⟨rfl, below_then (below_then hB1 hB) hB4⟩
end Go.Proofs.Ytpdoeibgnbdgfaa

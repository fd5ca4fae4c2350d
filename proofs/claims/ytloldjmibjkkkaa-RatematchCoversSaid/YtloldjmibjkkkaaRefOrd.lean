/- userplaneref09.Order: its contract. -/
import Derived.Test.YtloldjmibjkkkaaOrd9
namespace Go.Proofs.Ytloldjmibjkkkaa
open Go.RowKit
theorem elem_int : Elem1 Try.prog 22 3 8 (.int .i64 0) := Elem1.mk' Try.underlying22 (by kernel_rfl) rfl

set_option maxHeartbeats 1000000 in
theorem refOrder_ok (d R : Nat) (s : Int) (hd1 : 1 ≤ d) (hd2 : d ≤ 6148) (hR1 : d ≤ 32 * R) (hR2 : 32 * R < d + 32) (hs0 : 0 ≤ s) (hs2 : s ≤ 2) (w : World) :
    Calls Try.prog 27 #[.int .i64 d, .int .i64 s] w fun e w' => ∃ v, e = .returned (.tuple #[v, .int .i64 0]) ∧
      OwnL w' w.heap.size 3 v ((Ord.outL d R s (32 * R)).map (Value.int .i64)) ∧ Below w.heap.size w w' := by
  have hrz : Cols.rowsZ d = (R : Int) := by rw [Cols.rowsZ_in (by omega) (by omega)]; omega
  have HC := hid (show ∀ w, Calls Try.prog 30 #[.int .i64 d] w fun e w' => e = .returned (.int .i64 R) ∧ w = w' from fun w => by rw [← hrz]; exact refRows_any d w)
  clear hrz
  have hr0 : ((R : Int) == 0) = false := by simp; omega
  have hsl : decide (s < 0) = false := by simp; omega
  have hsg : decide (2 < s) = false := by simp; omega
  go_enter Try.func27, Try.ntmps27
  go_wp2_with (go_at_call 30; refine (HC.out _).mono ?_; rintro e w' ⟨rfl, rfl⟩)
  go_loopw [7, 8] (fun v i wr => ∃ k : Nat, k ≤ 32 * R - d ∧ i = .int .i64 k ∧ OwnL wr w.heap.size 3 v ((Ord.matL (32 * R - d) k).map (Value.int .i64)) ∧ Below w.heap.size w wr) (fun _ i _ => 32 * R - d - (intOf i).toNat)
  case atStart => exact ⟨0, by omega, rfl, OwnL.nil _ _ _, Below.refl _ _⟩
  case round =>
    obtain ⟨k, hk, rfl, hown, hB⟩ := hrel
    by_cases hlt : k < 32 * R - d
    · have hsz := hB.size
      have hl : ((Ord.matL (32 * R - d) k).map (Value.int .i64)).length = k := by simp [Ord.matL_len]
      have HL := hid hl
      have HM := hid (show Ord.matL (32 * R - d) (k + 1) = Ord.matL (32 * R - d) k ++ [-1] by rw [Ord.matL_succ, Ord.matF, if_pos hlt])
      clear hl
      go_wp2_with (at_builtin; refine wpList_append_one rfl elem_int (.tmp 34) (.tmp 35) rfl w.heap.size _ k _ HL.out rfl hown _ rfl rfl (by omega) (by omega) (by omega) ?_)
      intro g cap w1 hown1 hf
      have hB1 := hB.trans (hf.below hsz (fun i hi e => by have := (hown.block e).1; omega))
      clear hown hf hB
      go_wp2
      go_roundw
      case rel => exact ⟨k + 1, by omega, by go_num, by rw [HM.out, List.map_append]; exact hown1, hB1⟩
      case measure => simp [intOf]; omega
    · obtain rfl : k = 32 * R - d := by omega
      have hdec : decide (((32 * R - d : Nat) : Int) < 32 * (R : Int) - (d : Int)) = false := by simp; omega
      go_wp2
      clear hdec
      go_loopw [7, 9] (fun v i wr => ∃ k : Nat, k ≤ d ∧ i = .int .i64 k ∧ OwnL wr w.heap.size 3 v ((Ord.matL (32 * R - d) (32 * R - d + k)).map (Value.int .i64)) ∧ Below w.heap.size w wr) (fun _ i _ => d - (intOf i).toNat)
      case atStart => exact ⟨0, by omega, rfl, hown, hB⟩
      case round =>
        clear hown hB
        obtain ⟨k, hk, rfl, hown, hB⟩ := hrel
        by_cases hlt : k < d
        · have hsz := hB.size
          have HL := hid (show ((Ord.matL (32 * R - d) (32 * R - d + k)).map (Value.int .i64)).length = 32 * R - d + k by simp [Ord.matL_len])
          have HM := hid (show Ord.matL (32 * R - d) (32 * R - d + (k + 1)) = Ord.matL (32 * R - d) (32 * R - d + k) ++ [(k : Int)] by rw [show 32 * R - d + (k + 1) = (32 * R - d + k) + 1 by omega, Ord.matL_succ, Ord.matF, if_neg (by omega), show 32 * R - d + k - (32 * R - d) = k by omega])
          go_wp2_with (at_builtin; refine wpList_append_one rfl elem_int (.tmp 42) (.tmp 44) rfl w.heap.size _ (32 * R - d + k) _ HL.out rfl hown _ rfl rfl (by omega) (by omega) (by omega) ?_)
          intro g cap w1 hown1 hf
          have hB1 := hB.trans (hf.below hsz (fun i hi e => by have := (hown.block e).1; omega))
          clear hown hf hB
          go_wp2
          go_roundw
          case rel => exact ⟨k + 1, by omega, by go_num, by rw [HM.out, List.map_append]; exact hown1, hB1⟩
          case measure => simp [intOf]; omega
        · obtain rfl : k = d := by omega
          rw [show 32 * R - k + k = 32 * R by omega] at hown
          obtain ⟨g, cap, rfl⟩ := hown.shape (32 * R) (by simp [Ord.matL_len]) (by omega)
          obtain ⟨W, rfl⟩ : ∃ W : World, W = wr := ⟨_, rfl⟩
          have hgW := (hown.block (g := g) rfl).2
          have hgB := (hown.block (g := g) rfl).1
          have HMat := hid (show ∀ j, j < 32 * R → W.cell? ⟨g, j, none⟩ = some (.int .i64 (Ord.matF (32 * R - k) j)) from fun j hj => by
            rw [hown.at j (by simp [Ord.matL_len, hj])]; simp [Ord.matL])
          clear hown
          go_wp2
          go_loopw [10, 11] (fun v i wr => ∃ c : Nat, c ≤ 32 ∧ i = .int .i64 c ∧ OwnL wr W.heap.size 3 v ((Ord.outL k R s (c * R)).map (Value.int .i64)) ∧ Below W.heap.size W wr) (fun _ i _ => 32 - (intOf i).toNat)
          case atStart => exact ⟨0, by omega, rfl, by rw [Nat.zero_mul]; exact OwnL.nil _ _ _, Below.refl _ _⟩
          case round =>
            obtain ⟨c, hc, rfl, hown, hB2⟩ := hrel
            by_cases hlt3 : c < 32
            · obtain ⟨wo, rfl⟩ : ∃ wo : World, wo = wr := ⟨_, rfl⟩
              obtain ⟨q, hq⟩ : ∃ q : Nat, q = (Cols.perm.getD c 0).toNat := ⟨_, rfl⟩
              have hqb := Cols.perm_bd c hlt3
              have hq32 : q < 32 := by omega
              have HQ := hid (show Cols.colZ (c : Int) = (q : Int) by rw [Cols.colZ_in (by omega) (by omega)]; simp at hq ⊢; simp at hqb; omega)
              have HCc := hid (show ∀ w, Calls Try.prog 36 #[.int .i64 c] w fun e w' => e = .returned (.int .i64 q) ∧ Below w.heap.size w w' from fun w => by rw [← HQ.out]; exact refColumn_any c w)
              have Hq := hid hq
              have Hown := hid hown
              have hcd : decide ((c : Int) < 32) = true := by simp; omega
              clear hq hqb hown
              go_wp2
              go_loopw [10, 12, 13] (fun v i _ wr => ∃ r : Nat, r ≤ R ∧ i = .int .i64 r ∧ OwnL wr W.heap.size 3 v ((Ord.outL k R s (c * R + r)).map (Value.int .i64)) ∧ Below W.heap.size W wr) (fun _ i _ _ => R - (intOf i).toNat)
              case atStart => exact ⟨0, by omega, rfl, Hown.out, hB2⟩
              case round =>
                clear hB2 Hown
                obtain ⟨r, hr, rfl, hown, hB2⟩ := hrel
                by_cases hlt4 : r < R
                · have hsz := hB2.size
                  have hcr := Ord.lt_of_both hlt3 hlt4
                  have HO := hid (Ord.outL_succ k R s (c * R + r))
                  have HL := hid (show ((Ord.outL k R s (c * R + r)).map (Value.int .i64)).length = c * R + r by simp [Ord.outL_len])
                  have HI := hid (Ord.idx_at (c := c) hlt4)
                  obtain ⟨n, hn⟩ : ∃ n, n = c * R + r := ⟨_, rfl⟩
                  rw [← hn] at hown HL hcr HO HI
                  have HN := hid hn
                  clear hn
                  by_cases hs : s = 2
                  · subst hs
                    obtain ⟨m, hm⟩ : ∃ m : Nat, m = (q + 32 * r + 1) % (32 * R) := ⟨_, rfl⟩
                    have hmR : m < 32 * R := by rw [hm]; exact Nat.mod_lt _ (by omega)
                    have hmZ : ((32 : Int) * r + q + 1) % (32 * R) = m := by rw [hm, Nat.add_comm q]; push_cast; rfl
                    have hcell := (hB2.cell (p := ⟨g, m, none⟩) hgW).trans (HMat.out m hmR)
                    have HO2 := hid (show Ord.outL k R 2 (n + 1) = Ord.outL k R 2 n ++ [Ord.matF (32 * R - k) m] by
                      rw [HO.out, Ord.ordF, Ord.idx2, if_pos rfl, HI.out, ← Hq.out, hm])
                    have HM2 := hid hm
                    clear hm
                    go_wp2_with (first
                      | (go_at_call 36; refine (HCc.out _).mono ?_; rintro e w' ⟨rfl, hBc⟩; have hcell2 := (hBc.cell (p := ⟨g, m, none⟩) (Nat.lt_of_lt_of_le hgW hsz)).trans hcell; have hown2 := hown.fr (Fr.of_below hBc) (fun g' e => by have := (hown.block e).2; omega); have hB3 := hB2.trans (hBc.mono hsz); have hsz3 := hB3.size; clear hcell hown hB2 hBc)
                      | (at_builtin; refine wpList_append_one rfl elem_int (.tmp 67) (.tmp 72) rfl W.heap.size _ n _ HL.out rfl hown2 _ rfl rfl (by omega) (by omega) (by omega) ?_; intro g1 cap1 w1 hown1 hf))
                    have hB4 := hB3.trans (hf.below hsz3 (fun i hi e => by have := (hown2.block e).1; omega))
                    clear hown2 hf hB3
                    go_wp2
                    go_roundw
                    case rel => exact ⟨r + 1, by omega, by go_num, by rw [show c * R + (r + 1) = n + 1 by rw [HN.out]; rfl, HO2.out, List.map_append]; exact hown1, hB4⟩
                    case measure => simp [intOf]; omega
                  · have hcell := (hB2.cell (p := ⟨g, 32 * r + q, none⟩) hgW).trans (HMat.out (32 * r + q) (by omega))
                    have HO2 := hid (show Ord.outL k R s (n + 1) = Ord.outL k R s n ++ [Ord.matF (32 * R - k) (32 * r + q)] by
                      rw [HO.out, Ord.ordF, Ord.idx2, if_neg hs, HI.out, ← Hq.out, Nat.add_comm])
                    have hs' : ((s : Int) == 2) = false := by simp [hs]
                    clear hs
                    go_wp2_with (first
                      | (go_at_call 36; refine (HCc.out _).mono ?_; rintro e w' ⟨rfl, hBc⟩; have hcell2 := (hBc.cell (p := ⟨g, 32 * r + q, none⟩) (Nat.lt_of_lt_of_le hgW hsz)).trans hcell; have hown2 := hown.fr (Fr.of_below hBc) (fun g' e => by have := (hown.block e).2; omega); have hB3 := hB2.trans (hBc.mono hsz); have hsz3 := hB3.size; clear hcell hown hB2 hBc)
                      | (at_builtin; refine wpList_append_one rfl elem_int (.tmp 67) (.tmp 72) rfl W.heap.size _ n _ HL.out rfl hown2 _ rfl rfl (by omega) (by omega) (by omega) ?_; intro g1 cap1 w1 hown1 hf))
                    have hB4 := hB3.trans (hf.below hsz3 (fun i hi e => by have := (hown2.block e).1; omega))
                    clear hown2 hf hB3
                    go_wp2
                    go_roundw
                    case rel => exact ⟨r + 1, by omega, by go_num, by rw [show c * R + (r + 1) = n + 1 by rw [HN.out]; rfl, HO2.out, List.map_append]; exact hown1, hB4⟩
                    case measure => simp [intOf]; omega
                · obtain rfl : r = R := by omega
                  have HO2 := hid (show c * r + r = (c + 1) * r by rw [Nat.add_mul, Nat.one_mul])
                  go_wp2
                  go_roundw
                  case rel => exact ⟨c + 1, by omega, by go_num, by rw [← HO2.out]; exact hown, hB2⟩
                  case measure => simp [intOf]; omega
            · obtain rfl : c = 32 := by omega
              go_wp2
              go_ret2
              exact ⟨_, rfl, hown.base_mono hB.size, hB.trans (hB2.mono hB.size)⟩

set_option maxHeartbeats 400000 in
theorem refOrder_err (d s : Int) (h : d < 1 ∨ 6148 < d ∨ s < 0 ∨ 2 < s) (w : World) :
    Calls Try.prog 27 #[.int .i64 d, .int .i64 s] w fun e w' => e = .returned (.tuple #[.slice none 0 0, .int .i64 2]) ∧ w = w' := by
  by_cases h1 : d < 1 ∨ 6148 < d
  · have HC := hid (show ∀ w, Calls Try.prog 30 #[.int .i64 d] w fun e w' => e = .returned (.int .i64 0) ∧ w = w' from fun w => by rw [← Cols.rowsZ_out h1]; exact refRows_any d w)
    clear h1 h
    go_enter Try.func27, Try.ntmps27
    go_wp2_with (go_at_call 30; refine (HC.out _).mono ?_; rintro e w' ⟨rfl, rfl⟩)
    go_ret2
    exact ⟨rfl, rfl⟩
  · obtain ⟨R, hR⟩ : ∃ R : Nat, Cols.rowsZ d = (R : Int) := ⟨((d + 31) / 32).toNat, by rw [Cols.rowsZ_in (by omega) (by omega)]; omega⟩
    have hR0 : 0 < R := by rw [Cols.rowsZ_in (by omega) (by omega)] at hR; omega
    have HC := hid (show ∀ w, Calls Try.prog 30 #[.int .i64 d] w fun e w' => e = .returned (.int .i64 R) ∧ w = w' from fun w => by rw [← hR]; exact refRows_any d w)
    clear hR
    have hr0 : ((R : Int) == 0) = false := by simp; omega
    by_cases h2 : s < 0
    · go_enter Try.func27, Try.ntmps27
      go_wp2_with (go_at_call 30; refine (HC.out _).mono ?_; rintro e w' ⟨rfl, rfl⟩)
      go_ret2
      exact ⟨rfl, rfl⟩
    · have h3 : 2 < s := by omega
      have h4 : ¬ s < 0 := by omega
      go_enter Try.func27, Try.ntmps27
      go_wp2_with (go_at_call 30; refine (HC.out _).mono ?_; rintro e w' ⟨rfl, rfl⟩)
      go_ret2
      exact ⟨rfl, rfl⟩
end Go.Proofs.Ytloldjmibjkkkaa

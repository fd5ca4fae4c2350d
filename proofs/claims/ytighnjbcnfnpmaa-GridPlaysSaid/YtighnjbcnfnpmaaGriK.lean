/- userplane/grid: the methods of a nil or zero grid; userplanelaw17.points. -/
import Derived.Test.YtighnjbcnfnpmaaGriW
namespace Go.Proofs.Ytighnjbcnfnpmaa
open Go.RowKit Go.Shelf
set_option linter.unusedVariables false
attribute [local go_sem ↓] Go.wp_at_zero Go.wp_at_succ
/-- The value n is a nil or zero grid, in every world above w. -/
def NoGrid (w : World) (n : Value) : Prop := ∀ W, Below w.heap.size w W → Calls Try.prog 44 #[n] W fun e w' => e = .returned (.bool true) ∧ W = w'
theorem NoGrid.up {w w1 : World} {n : Value} (h : NoGrid w n) (hb : Below w.heap.size w w1) : NoGrid w1 n := fun W hW => h W (hb.trans (hW.mono hb.size))
theorem nodata_any {w : World} {n : Value} (h : NoGrid w n) (first blocks : Int) : Calls Try.prog 43 #[n, .int .i64 first, .int .i64 blocks] w fun e w' => e = .returned (.tuple #[.slice none 0 0, .int .i64 1]) ∧ w = w' := by
  have HN := hid (h _ (Below.refl _ _))
  clear h
  go_enter Try.func43, Try.ntmps43
  go_wp2_with fail
  refine HN.out.mono ?_
  rintro r w1 ⟨rfl, rfl⟩
  go_wp2
  go_ret2
  exact ⟨rfl, rfl⟩
theorem noget_any {w : World} {n : Value} (h : NoGrid w n) (first blocks : Int) : Calls Try.prog 25 #[n, .int .i64 first, .int .i64 blocks] w fun e w' => e = .returned (.tuple #[.slice none 0 0, .int .i64 1]) ∧ w = w' := by
  have HN := hid (nodata_any h first blocks)
  clear h
  go_enter Try.func25, Try.ntmps25
  go_wp2_with fail
  refine HN.out.mono ?_
  rintro r w1 ⟨rfl, rfl⟩
  go_wp2
  refine wp_loop_rounds 1 ?_
  rw [rounds_succ]
  go_wp2
  go_ret2
  exact ⟨rfl, rfl⟩
theorem noput_any {w : World} {n : Value} (h : NoGrid w n) (first blocks : Int) (v : Value) : Calls Try.prog 23 #[n, .int .i64 first, .int .i64 blocks, v] w fun e w' => e = .returned (.int .i64 1) ∧ w = w' := by
  have HN := hid (nodata_any h first blocks)
  clear h
  go_enter Try.func23, Try.ntmps23
  go_wp2_with fail
  refine HN.out.mono ?_
  rintro r w1 ⟨rfl, rfl⟩
  go_wp2
  go_ret
  exact ⟨rfl, rfl⟩
theorem noload_any {w : World} {n : Value} (h : NoGrid w n) (v : Value) : Calls Try.prog 31 #[n, v] w fun e w' => e = .returned (.int .i64 1) ∧ w = w' := by
  have HN := hid (h _ (Below.refl _ _))
  clear h
  go_enter Try.func31, Try.ntmps31
  go_wp2_with fail
  refine HN.out.mono ?_
  rintro r w1 ⟨rfl, rfl⟩
  go_wp2
  go_ret
  exact ⟨rfl, rfl⟩
theorem nopoints_any {w : World} {n : Value} (h : NoGrid w n) : Calls Try.prog 24 #[n] w fun e w' => e = .returned (.slice none 0 0) ∧ w = w' := by
  have HN := hid (h _ (Below.refl _ _))
  clear h
  go_enter Try.func24, Try.ntmps24
  go_wp2_with fail
  refine HN.out.mono ?_
  rintro r w1 ⟨rfl, rfl⟩
  go_wp2
  go_ret
  exact ⟨rfl, rfl⟩
theorem noconfig_any {w : World} {n : Value} (h : NoGrid w n) : Calls Try.prog 32 #[n] w fun e w' => e = .returned (CV 0 0 0) ∧ Below w.heap.size w w' := by
  have HN := hid (h (w.alloc (.cells #[.int .i64 0, .int .i64 0, .int .i64 0] 23)) (below_alloc _ _))
  clear h
  go_enter Try.func32, Try.ntmps32
  go_wp2_with fail
  refine HN.out.mono ?_
  rintro r w1 ⟨rfl, rfl⟩
  go_wp2
  exact bodyPost_ret (v := CV 0 0 0) (by simp [results, Try.results32, go_sem]) rfl ⟨rfl, below_alloc _ _⟩
set_option maxHeartbeats 1000000 in
theorem points_any (n seed : Int) (w : World) : Calls Try.prog 22 #[.int .i64 n, .int .i64 seed] w fun e w' => (∃ v ps, e = .returned v ∧ ps.length = (if 0 < (if n < 4000 then n else 4000) then (if n < 4000 then n else 4000) else 0).toNat ∧ POwn w' w.heap.size 53 v ps) ∧ Below w.heap.size w w' := by
  obtain ⟨a, ha⟩ : ∃ a, a = (if n < 4000 then n else 4000) := ⟨_, rfl⟩
  rw [← ha]
  obtain ⟨N, hN⟩ : ∃ N : Nat, (N : Int) = if 0 < a then a else 0 := ⟨(if 0 < a then a else 0).toNat, by split <;> omega⟩
  rw [← hN, Int.toNat_natCast]
  have h1 := hid ha.symm
  have h2 := hid hN.symm
  have hNb : N ≤ 4000 := by split at ha <;> split at hN <;> omega
  clear ha hN
  go_enter Try.func22, Try.ntmps22
  have m1 := h1.out
  have m2 := h2.out
  go_wp2_with (at_make; refine wpList_run_value rfl (exec_make_two pelem (.tmp 9) (.tmp 9) rfl .i64 .i64 _ _ N rfl rfl (by first | rfl | omega) (by first | rfl | omega) (by omega)) ?_)
  clear m1 m2
  generalize hW : World.alloc _ _ = w1
  have HO1 := hid (show POwn w1 w.heap.size 53 (.slice (some ⟨w.heap.size, 0, none⟩) N N) (List.replicate N (0, 0)) by rw [← hW]; exact POwn.zeros w _ _ N (Nat.le_refl _) (by omega))
  have HB1 := hid (show Below w.heap.size w w1 by rw [← hW]; exact below_alloc _ _)
  clear hW
  go_loopw [6] (fun i wr => ∃ k : Nat, k ≤ N ∧ i = .int .i64 k ∧ (∃ ps : List Pt, ps.length = N ∧ POwn wr w.heap.size 53 (.slice (some ⟨w.heap.size, 0, none⟩) N N) ps) ∧ Below w.heap.size w wr) (fun i _ => N - (intOf i).toNat)
  case atStart => exact ⟨0, Nat.zero_le _, rfl, ⟨_, List.length_replicate, HO1.out⟩, HB1.out⟩
  case round =>
    obtain ⟨k, hk, rfl, ⟨ps, hps, hown⟩, hB⟩ := hrel
    by_cases hlt : k < N
    · obtain ⟨k0, k1⟩ := hown.cells (i := k) (by omega)
      have z0 := hown.free (k * 2)
      have z1 := hown.free (k * 2 + 1)
      have HO := hid (fun x y => hown.stored k x y)
      have HB := hid hB
      have HL := hid hps
      clear hown hB hps
      go_wp2
      have F3 : ∀ u v, Fr (fun j => j = w.heap.size) wr ((wr.setCell ⟨w.heap.size, k * 2, none⟩ u).setCell ⟨w.heap.size, k * 2 + 1, none⟩ v) := fun u v => (Fr.setCell (S := fun j => j = w.heap.size) _ ⟨w.heap.size, k * 2, none⟩ _ rfl).trans (Fr.setCell (S := fun j => j = w.heap.size) _ ⟨w.heap.size, k * 2 + 1, none⟩ _ rfl)
      have HF := hid F3
      clear F3
      go_roundw
      case rel => exact ⟨k + 1, by omega, by go_num, ⟨_, by rw [List.length_set]; exact HL.out, HO.out _ _⟩, HB.out.trans ((HF.out _ _).below HB.out.size (fun i hi e => by omega))⟩
      case measure => simp [intOf]; omega
    · obtain rfl : k = N := by omega
      have HO := hid hown
      have HB := hid hB
      have HL := hid hps
      clear hown hB hps
      go_wp2
      go_ret
      exact ⟨⟨_, _, rfl, HL.out, HO.out⟩, HB.out⟩
end Go.Proofs.Ytighnjbcnfnpmaa

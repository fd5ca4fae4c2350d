/- userplanelaw17.points, with its value; a slice of points cut. -/
import Derived.Test.YtighnjbcnfnpmaaGriL
import Derived.Test.YtighnjbcnfnpmaaGri9d
namespace Go.Proofs.Ytighnjbcnfnpmaa
open Go.RowKit Go.Shelf
set_option linter.unusedVariables false
attribute [local go_sem ↓] Go.wp_at_zero Go.wp_at_succ
theorem POwn.cut {w : World} {base : Nat} {e : TypeId} {v : Value} {xs : List Pt} (h : POwn w base e v xs) : ∃ a c, v = .slice a xs.length c ∧ xs.length ≤ c := by
  rcases h.2 with ⟨rfl, h2⟩ | ⟨g', cap', cur, rfl, _, _, h2, _⟩
  · exact ⟨none, 0, by rw [h2], by omega⟩
  · exact ⟨_, _, rfl, h2⟩
set_option maxHeartbeats 1000000 in
theorem points_lit (n seed : Int) (w : World) : Calls Try.prog 22 #[.int .i64 n, .int .i64 seed] w fun e w' => (∃ ps : List Pt, e = .returned (.slice (some ⟨w.heap.size, 0, none⟩) ps.length ps.length) ∧ ps.length = (if 0 < (if n < 4000 then n else 4000) then (if n < 4000 then n else 4000) else 0).toNat ∧ POwn w' w.heap.size 53 (.slice (some ⟨w.heap.size, 0, none⟩) ps.length ps.length) ps) ∧ Below w.heap.size w w' := by
  obtain ⟨a, ha⟩ : ∃ a, a = (if n < 4000 then n else 4000) := ⟨_, rfl⟩
  rw [← ha]
  obtain ⟨N, hN⟩ : ∃ N : Nat, (N : Int) = if 0 < a then a else 0 := ⟨(if 0 < a then a else 0).toNat, by split <;> omega⟩
  rw [← hN, Int.toNat_natCast]
  have h1 := hid ha.symm
  have h2 := hid hN.symm
  have hNb : N ≤ 4000 := by split at ha <;> split at hN <;> omega
  clear ha hN
  go_enter Try.func22, Try.ntmps22
  have m1 := h1.out
  have m2 := h2.out
  go_wp2_with (at_make; refine wpList_run_value rfl (exec_make_two pelem (.tmp 9) (.tmp 9) rfl .i64 .i64 _ _ N rfl rfl (by first | rfl | omega) (by first | rfl | omega) (by omega)) ?_)
  clear m1 m2
  generalize hW : World.alloc _ _ = w1
  have HO1 := hid (show POwn w1 w.heap.size 53 (.slice (some ⟨w.heap.size, 0, none⟩) N N) (List.replicate N (0, 0)) by rw [← hW]; exact POwn.zeros w _ _ N (Nat.le_refl _) (by omega))
  have HB1 := hid (show Below w.heap.size w w1 by rw [← hW]; exact below_alloc _ _)
  clear hW
  go_loopw [6] (fun i wr => ∃ k : Nat, k ≤ N ∧ i = .int .i64 k ∧ (∃ ps : List Pt, ps.length = N ∧ POwn wr w.heap.size 53 (.slice (some ⟨w.heap.size, 0, none⟩) N N) ps) ∧ Below w.heap.size w wr) (fun i _ => N - (intOf i).toNat)
  case atStart => exact ⟨0, Nat.zero_le _, rfl, ⟨_, List.length_replicate, HO1.out⟩, HB1.out⟩
  case round =>
    obtain ⟨k, hk, rfl, ⟨ps, hps, hown⟩, hB⟩ := hrel
    by_cases hlt : k < N
    · obtain ⟨k0, k1⟩ := hown.cells (i := k) (by omega)
      have z0 := hown.free (k * 2)
      have z1 := hown.free (k * 2 + 1)
      have HO := hid (fun x y => hown.stored k x y)
      have HB := hid hB
      have HL := hid hps
      clear hown hB hps
      go_wp2
      have F3 : ∀ u v, Fr (fun j => j = w.heap.size) wr ((wr.setCell ⟨w.heap.size, k * 2, none⟩ u).setCell ⟨w.heap.size, k * 2 + 1, none⟩ v) := fun u v => (Fr.setCell (S := fun j => j = w.heap.size) _ ⟨w.heap.size, k * 2, none⟩ _ rfl).trans (Fr.setCell (S := fun j => j = w.heap.size) _ ⟨w.heap.size, k * 2 + 1, none⟩ _ rfl)
      have HF := hid F3
      clear F3
      go_roundw
      case rel => exact ⟨k + 1, by omega, by go_num, ⟨_, by rw [List.length_set]; exact HL.out, HO.out _ _⟩, HB.out.trans ((HF.out _ _).below HB.out.size (fun i hi e => by omega))⟩
      case measure => simp [intOf]; omega
    · obtain rfl : k = N := by omega
      have HO := hid hown
      have HB := hid hB
      have HL := hid hps
      clear hown hB hps
      go_wp2
      go_ret
      exact ⟨⟨ps, by rw [HL.out]; rfl, HL.out, by have := HO.out; rwa [← HL.out] at this⟩, HB.out⟩
end Go.Proofs.Ytighnjbcnfnpmaa

/- userplane/ratematch: full. -/
import Derived.Test.YtloldjmibjkkkaaRmA
import Derived.Outline
namespace Go.Proofs.Ytloldjmibjkkkaa
open Go.RowKit Go.Shelf
set_option linter.unusedVariables false
namespace Rm
theorem ordF_bd (d R : Nat) (s : Int) (m : Nat) (hm : m < 32 * R) : -1 ≤ Ord.ordF d R s m ∧ Ord.ordF d R s m < 32 * R := by
  have := Ord.idx2_lt (s := s) hm
  unfold Ord.ordF Ord.matF
  split <;> omega
/-- What is filled in when the streams below s are done. -/
def stL (k f R s : Nat) : List Int := if s < 3 then partL k f R s 0 else fullL k f R
theorem stL_lt {k f R s : Nat} (h : s < 3) : stL k f R s = partL k f R s 0 := if_pos h
theorem stL_next {k f R s : Nat} (h : s < 3) : stL k f R (s + 1) = partL k f R s (32 * R) := by
  by_cases h2 : s < 2
  · rw [stL, if_pos (by omega), partL_next h2]
  · obtain rfl : s = 2 := by omega
    rw [stL, if_neg (by omega), partL_full]
theorem stL_end (k f R : Nat) : stL k f R 3 = fullL k f R := rfl
end Rm
theorem two_boxes (w : World) (a b : Obj) : Below w.heap.size w ((w.alloc a).alloc b) := ((Below.refl _ _).alloc (Nat.le_refl _) _).alloc (by simp) _
set_option maxRecDepth 100000 in
set_option maxHeartbeats 8000000 in
theorem full_any (k f R n : Nat) (hk1 : 40 ≤ k) (hk2 : k ≤ 6144) (hf : f < k) (hR1 : k + 4 ≤ 32 * R) (hR2 : 32 * R < k + 4 + 32) (w : World) :
    Calls Try.prog 34 #[wordV k f R n] w fun e w' => (∃ v', e = .returned v' ∧ OwnL w' w.heap.size 3 v' ((Rm.fullL k f R).map (Value.int .i64))) ∧ Below w.heap.size w w' := by
  have HO := hid (show ∀ (s : Nat), s ≤ 2 → ∀ w, Calls Try.prog 40 #[.int .i64 ((k : Int) + 4), .int .i64 s] w fun e w' => ∃ v, e = .returned (.tuple #[v, .int .i64 0]) ∧ OwnL w' w.heap.size 3 v ((Ord.outL (k + 4) R s (32 * R)).map (Value.int .i64)) ∧ Below w.heap.size w w' from
    fun s hs w => order_ok (k + 4) R s (by omega) (by omega) hR1 hR2 (by omega) (by omega) w)
  have hRb : R ≤ 200 := by omega
  have hR0 : 2 ≤ R := by omega
  unfold wordV
  go_enter Try.func34, Try.ntmps34
  go_wp2
  go_region
  go_wp2_with (at_make; refine wpList_run_value rfl (exec_make_one elem_int (.tmp 21) (.tmp 21) rfl .i64 .i64 _ _ (96 * R) (96 * R) rfl rfl (by omega) (by omega) (Nat.le_refl _) (by omega) (by omega)) ?_)
  generalize hW : World.drew _ = W
  replace hW := hW.symm
  have hWs : W.heap.size = w.heap.size + 3 := by rw [hW]; simp
  have hBW : Below w.heap.size w W := by
    rw [hW]
    have h3 : Below w.heap.size w (((w.alloc (.cells #[.int .i64 k, .int .i64 f, .int .i64 R, .int .i64 n] 42)).alloc (.cells #[.int .i64 ((k : Int) + 4)] 3)).alloc (.cells (Array.replicate (96 * R) (.int .i64 0)) 3)) := (((Below.refl _ _).alloc (Nat.le_refl _) _).alloc (by simp) _).alloc (by simp; omega) _
    exact h3.trans ((Fr.drew (fun _ => False) _).below h3.size (fun _ _ h => h))
  have hcf : W.cell? ⟨w.heap.size, 1, none⟩ = some (.int .i64 f) := by rw [hW]; go_simp
  have hcd : W.cell? ⟨w.heap.size + 1, 0, none⟩ = some (.int .i64 ((k : Int) + 4)) := by rw [hW]; go_simp
  have hown : OwnL W w.heap.size 3 (.slice (some ⟨w.heap.size + 1 + 1, 0, none⟩) (96 * R) (96 * R)) ((Rm.stL k f R 0).map (Value.int .i64)) := by
    rw [Rm.stL_lt (by omega), Rm.partL_zero, List.map_replicate, hW]
    have h1 := OwnL.zeros ((w.alloc (.cells #[.int .i64 k, .int .i64 f, .int .i64 R, .int .i64 n] 42)).alloc (.cells #[.int .i64 ((k : Int) + 4)] 3)) w.heap.size 3 (96 * R) (.int .i64 0) (by simp; omega) (by omega)
    simp only [World.size_alloc] at h1
    exact h1.fr (Fr.drew (fun _ => False) _) (fun _ _ h => h)
  have HBW := hid hBW
  have HWs := hid hWs
  have Hcf := hid hcf
  have Hcd := hid hcd
  have Hown := hid hown
  clear hW hBW hcf hcd hown hWs
  go_loopw [23] (fun i wr => ∃ s : Nat, s ≤ 3 ∧ i = .int .i64 s ∧ OwnL wr w.heap.size 3 (.slice (some ⟨w.heap.size + 1 + 1, 0, none⟩) (96 * R) (96 * R)) ((Rm.stL k f R s).map (Value.int .i64)) ∧ Fr (fun b => b = w.heap.size + 2) W wr) (fun i _ => 3 - (intOf i).toNat)
  case atStart => exact ⟨0, by omega, rfl, Hown.out, Fr.refl _ _⟩
  case round =>
    clear Hown
    obtain ⟨s, hs, rfl, hown, hfr⟩ := hrel
    obtain ⟨wz, hwz⟩ : ∃ wz, wz = wr := ⟨_, rfl⟩
    subst hwz
    have hsz : w.heap.size + 3 ≤ wz.heap.size := by have := hfr.size; have := HWs.out; omega
    have hcd : wz.cell? ⟨w.heap.size + 1, 0, none⟩ = some (.int .i64 ((k : Int) + 4)) := (hfr.cell (p := ⟨w.heap.size + 1, 0, none⟩) (by have := HWs.out; dsimp only; omega) (by dsimp only; omega)).trans Hcd.out
    have hcf : wz.cell? ⟨w.heap.size, 1, none⟩ = some (.int .i64 f) := (hfr.cell (p := ⟨w.heap.size, 1, none⟩) (by have := HWs.out; dsimp only; omega) (by dsimp only; omega)).trans Hcf.out
    have HO0 := hid hown
    have HF0 := hid hfr
    clear hown hfr
    have hne1 : ¬ w.heap.size + 1 = wz.heap.size := by omega
    have hne2 : ¬ w.heap.size + 1 = wz.heap.size + 1 := by omega
    have hlt1 : w.heap.size + 1 < wz.heap.size := by omega
    have hlt0 : w.heap.size < wz.heap.size := by omega
    rcases (show s = 0 ∨ s = 1 ∨ s = 2 ∨ s = 3 by omega) with rfl | rfl | rfl | rfl
    · have HOs := hid (show ∀ w, Calls Try.prog 40 #[.int .i64 ((k : Int) + 4), .int .i64 0] w _ from HO.out 0 (by omega))
      go_wp2_with fail
      refine (HOs.out _).mono ?_
      rintro e w1 ⟨v, rfl, hown1, hB1⟩
      obtain ⟨g, cap, rfl⟩ := hown1.shape (32 * R) (by simp [Ord.outL_len]) (by omega)
      have hgl := (hown1.block (g := g) rfl).1
      have hgs := (hown1.block (g := g) rfl).2
      simp only [World.size_alloc] at hgl
      have HOrd := hid (show ∀ j, j < 32 * R → w1.cell? ⟨g, j, none⟩ = some (.int .i64 (Ord.ordF (k + 4) R 0 j)) from fun j hj => by
        rw [hown1.at j (by simp [Ord.outL_len, hj])]; simp [Ord.outL])
      have hbx : Below wz.heap.size wz ((wz.alloc (.cells #[.int .i64 0] 3)).alloc (.cells #[.func (.func 38) #[] #[.pointer (some ⟨wz.heap.size, 0, none⟩), .pointer (some ⟨w.heap.size + 1, 0, none⟩)]] 51)) := two_boxes wz _ _
      have hw1 : Below wz.heap.size wz w1 := hbx.trans (hB1.mono (by simp <;> omega))
      have cs : w1.cell? ⟨wz.heap.size, 0, none⟩ = some (.int .i64 0) := (hB1.cell (p := ⟨wz.heap.size, 0, none⟩) (by simp <;> omega)).trans (by go_simp)
      have cp : w1.cell? ⟨wz.heap.size + 1, 0, none⟩ = some (.func (.func 38) #[] #[.pointer (some ⟨wz.heap.size, 0, none⟩), .pointer (some ⟨w.heap.size + 1, 0, none⟩)]) := (hB1.cell (p := ⟨wz.heap.size + 1, 0, none⟩) (by simp)).trans (by go_simp)
      have cd : w1.cell? ⟨w.heap.size + 1, 0, none⟩ = some (.int .i64 ((k : Int) + 4)) := (hw1.cell (p := ⟨w.heap.size + 1, 0, none⟩) (by dsimp only; omega)).trans hcd
      have cf : w1.cell? ⟨w.heap.size, 1, none⟩ = some (.int .i64 f) := (hw1.cell (p := ⟨w.heap.size, 1, none⟩) (by dsimp only; omega)).trans hcf
      have HO1 := hid (HO0.out.fr (Fr.of_below hw1) (fun b e => by simp [Value.ownBlock] at e; omega))
      have HF1 := hid (HF0.out.trans ((Fr.of_below hw1).mono (fun b hb h => by omega) : Fr (fun b => b = w.heap.size + 2) wz w1))
      have hs1 : wz.heap.size + 2 ≤ w1.heap.size := by have := hB1.size; simp only [World.size_alloc] at this; omega
      clear hown1 hB1 hbx hw1 hcd hcf HO0 HF0
      clear hne1 hne2 hlt1 hlt0
      generalize wz.heap.size = n1 at hgl hsz hs1 cs cp ⊢
      go_wp2
      go_loopw [39] (fun i wr => ∃ m : Nat, m ≤ 32 * R ∧ i = .int .i64 m ∧ OwnL wr w.heap.size 3 (.slice (some ⟨w.heap.size + 1 + 1, 0, none⟩) (96 * R) (96 * R)) ((Rm.partL k f R 0 m).map (Value.int .i64)) ∧ Fr (fun b => b = w.heap.size + 2) w1 wr) (fun i _ => 32 * R - (intOf i).toNat)
      case atStart => exact ⟨0, Nat.zero_le _, rfl, by have := HO1.out; rw [Rm.stL_lt (by omega)] at this; exact this, Fr.refl _ _⟩
      case round =>
        obtain ⟨m, hm, rfl, hown2, hfr2⟩ := hrel
        by_cases hlt : m < 32 * R
        · have ci := (hfr2.cell (p := ⟨g, m, none⟩) hgs (by dsimp only; omega)).trans (HOrd.out m hlt)
          have cs2 := (hfr2.cell (p := ⟨n1, 0, none⟩) (by dsimp only; omega) (by dsimp only; omega)).trans cs
          have cd2 := (hfr2.cell (p := ⟨w.heap.size + 1, 0, none⟩) (by dsimp only; omega) (by dsimp only; omega)).trans cd
          have cp2 := (hfr2.cell (p := ⟨n1 + 1, 0, none⟩) (by dsimp only; omega) (by dsimp only; omega)).trans cp
          have cf2 := (hfr2.cell (p := ⟨w.heap.size, 1, none⟩) (by dsimp only; omega) (by dsimp only; omega)).trans cf
          have hbd := Rm.ordF_bd (k + 4) R 0 m hlt
          have HSet := hid (Rm.partL_set0 k f R m hlt)
          have hfrz := hown2.free (m)
          obtain ⟨u, hu⟩ : ∃ u : Value, wr.cell? ⟨w.heap.size + 1 + 1, m, none⟩ = some u := ⟨_, hown2.at (m) (by simp [Rm.partL_len]; omega)⟩
          have HO2 := hid hown2
          have HF2 := hid hfr2
          have fin : ∀ y : Int, y = Rm.el k f 0 (Ord.ordF (k + 4) R 0 m) → OwnL (wr.setCell ⟨w.heap.size + 1 + 1, m, none⟩ (.int .i64 y)) w.heap.size 3 (.slice (some ⟨w.heap.size + 1 + 1, 0, none⟩) (96 * R) (96 * R)) ((Rm.partL k f R 0 (m + 1)).map (Value.int .i64)) ∧ Fr (fun b => b = w.heap.size + 2) w1 (wr.setCell ⟨w.heap.size + 1 + 1, m, none⟩ (.int .i64 y)) := by
            intro y hy
            refine ⟨?_, HF2.out.trans (Fr.setCell _ _ _ rfl)⟩
            have := HO2.out.stored (m) (.int .i64 y)
            rw [hy, ← List.map_set, HSet.out] at this
            rw [hy]; exact this
          have HFin := hid fin
          clear fin hown2 hfr2 HSet
          generalize hi : Ord.ordF (k + 4) R 0 m = i at *
          clear hi
          by_cases hneg : i < 0
          · obtain rfl : i = -1 := by omega
            have HE := hid (Rm.el_neg (k := k) (f := f) (s := 0) (i := -1) (by omega))
            clear hneg hbd
            go_wp2
            go_roundw
            case rel => have h := HFin.out (-1) HE.out.symm; exact ⟨m + 1, by omega, by go_num, h.1, h.2⟩
            case measure => simp [intOf]; omega
          · obtain ⟨i, rfl⟩ := Int.eq_ofNat_of_zero_le (show 0 ≤ i by omega)
            have hib : i ≤ 100000 := by omega
            have C := hid (full2_any f 0 (k + 4) i w.heap.size n1 (w.heap.size + 1) (n1 + 1) (by omega) (by omega) hib wr cs2 (by rw [cd2]; congr 1) cf2 cp2)
            have HY0 := hid (show (if (i : Int) < f then -1 else ((0 * (k + 4) : Nat) : Int) + (i : Int)) = Rm.el k f 0 i by
              unfold Rm.el; by_cases h : (i : Int) < f
              · rw [if_pos h, if_pos (.inr ⟨by omega, h⟩)]
              · rw [if_neg h, if_neg (by omega)])
            rw [HY0.out] at C
            obtain ⟨y, HY⟩ : ∃ y, Hid (y = Rm.el k f 0 i) := ⟨_, rfl⟩
            rw [← HY.out] at C
            clear hneg hbd
            go_wp2_with (refine C.out.mono ?_; rintro e w' ⟨rfl, rfl⟩)
            go_roundw
            case rel => have h := HFin.out y HY.out; exact ⟨m + 1, by omega, by go_num, h.1, h.2⟩
            case measure => simp [intOf]; omega
        · obtain rfl : m = 32 * R := by omega
          go_wp2
          go_roundw
          case rel => exact ⟨0 + 1, by omega, by go_num, by rw [Rm.stL_next (by omega)]; exact hown2, HF1.out.trans hfr2⟩
          case measure => simp [intOf]
    · have HOs := hid (show ∀ w, Calls Try.prog 40 #[.int .i64 ((k : Int) + 4), .int .i64 1] w _ from HO.out 1 (by omega))
      go_wp2_with fail
      refine (HOs.out _).mono ?_
      rintro e w1 ⟨v, rfl, hown1, hB1⟩
      obtain ⟨g, cap, rfl⟩ := hown1.shape (32 * R) (by simp [Ord.outL_len]) (by omega)
      have hgl := (hown1.block (g := g) rfl).1
      have hgs := (hown1.block (g := g) rfl).2
      simp only [World.size_alloc] at hgl
      have HOrd := hid (show ∀ j, j < 32 * R → w1.cell? ⟨g, j, none⟩ = some (.int .i64 (Ord.ordF (k + 4) R 1 j)) from fun j hj => by
        rw [hown1.at j (by simp [Ord.outL_len, hj])]; simp [Ord.outL])
      have hbx : Below wz.heap.size wz ((wz.alloc (.cells #[.int .i64 1] 3)).alloc (.cells #[.func (.func 38) #[] #[.pointer (some ⟨wz.heap.size, 0, none⟩), .pointer (some ⟨w.heap.size + 1, 0, none⟩)]] 51)) := two_boxes wz _ _
      have hw1 : Below wz.heap.size wz w1 := hbx.trans (hB1.mono (by simp <;> omega))
      have cs : w1.cell? ⟨wz.heap.size, 0, none⟩ = some (.int .i64 1) := (hB1.cell (p := ⟨wz.heap.size, 0, none⟩) (by simp <;> omega)).trans (by go_simp)
      have cp : w1.cell? ⟨wz.heap.size + 1, 0, none⟩ = some (.func (.func 38) #[] #[.pointer (some ⟨wz.heap.size, 0, none⟩), .pointer (some ⟨w.heap.size + 1, 0, none⟩)]) := (hB1.cell (p := ⟨wz.heap.size + 1, 0, none⟩) (by simp)).trans (by go_simp)
      have cd : w1.cell? ⟨w.heap.size + 1, 0, none⟩ = some (.int .i64 ((k : Int) + 4)) := (hw1.cell (p := ⟨w.heap.size + 1, 0, none⟩) (by dsimp only; omega)).trans hcd
      have cf : w1.cell? ⟨w.heap.size, 1, none⟩ = some (.int .i64 f) := (hw1.cell (p := ⟨w.heap.size, 1, none⟩) (by dsimp only; omega)).trans hcf
      have HO1 := hid (HO0.out.fr (Fr.of_below hw1) (fun b e => by simp [Value.ownBlock] at e; omega))
      have HF1 := hid (HF0.out.trans ((Fr.of_below hw1).mono (fun b hb h => by omega) : Fr (fun b => b = w.heap.size + 2) wz w1))
      have hs1 : wz.heap.size + 2 ≤ w1.heap.size := by have := hB1.size; simp only [World.size_alloc] at this; omega
      clear hown1 hB1 hbx hw1 hcd hcf HO0 HF0
      clear hne1 hne2 hlt1 hlt0
      generalize wz.heap.size = n1 at hgl hsz hs1 cs cp ⊢
      go_wp2
      go_loopw [39] (fun i wr => ∃ m : Nat, m ≤ 32 * R ∧ i = .int .i64 m ∧ OwnL wr w.heap.size 3 (.slice (some ⟨w.heap.size + 1 + 1, 0, none⟩) (96 * R) (96 * R)) ((Rm.partL k f R 1 m).map (Value.int .i64)) ∧ Fr (fun b => b = w.heap.size + 2) w1 wr) (fun i _ => 32 * R - (intOf i).toNat)
      case atStart => exact ⟨0, Nat.zero_le _, rfl, by have := HO1.out; rw [Rm.stL_lt (by omega)] at this; exact this, Fr.refl _ _⟩
      case round =>
        obtain ⟨m, hm, rfl, hown2, hfr2⟩ := hrel
        by_cases hlt : m < 32 * R
        · have ci := (hfr2.cell (p := ⟨g, m, none⟩) hgs (by dsimp only; omega)).trans (HOrd.out m hlt)
          have cs2 := (hfr2.cell (p := ⟨n1, 0, none⟩) (by dsimp only; omega) (by dsimp only; omega)).trans cs
          have cd2 := (hfr2.cell (p := ⟨w.heap.size + 1, 0, none⟩) (by dsimp only; omega) (by dsimp only; omega)).trans cd
          have cp2 := (hfr2.cell (p := ⟨n1 + 1, 0, none⟩) (by dsimp only; omega) (by dsimp only; omega)).trans cp
          have cf2 := (hfr2.cell (p := ⟨w.heap.size, 1, none⟩) (by dsimp only; omega) (by dsimp only; omega)).trans cf
          have hbd := Rm.ordF_bd (k + 4) R 1 m hlt
          have HSet := hid (show (Rm.partL k f R 1 m).set (32 * R + 2 * m) (Rm.el k f 1 (Ord.ordF (k + 4) R 1 m)) = Rm.partL k f R 1 (m + 1) from Rm.partL_set k f R 1 m (by omega) (by omega) hlt)
          have hfrz := hown2.free (32 * R + 2 * m)
          obtain ⟨u, hu⟩ : ∃ u : Value, wr.cell? ⟨w.heap.size + 1 + 1, 32 * R + 2 * m, none⟩ = some u := ⟨_, hown2.at (32 * R + 2 * m) (by simp [Rm.partL_len]; omega)⟩
          have HO2 := hid hown2
          have HF2 := hid hfr2
          have fin : ∀ y : Int, y = Rm.el k f 1 (Ord.ordF (k + 4) R 1 m) → OwnL (wr.setCell ⟨w.heap.size + 1 + 1, 32 * R + 2 * m, none⟩ (.int .i64 y)) w.heap.size 3 (.slice (some ⟨w.heap.size + 1 + 1, 0, none⟩) (96 * R) (96 * R)) ((Rm.partL k f R 1 (m + 1)).map (Value.int .i64)) ∧ Fr (fun b => b = w.heap.size + 2) w1 (wr.setCell ⟨w.heap.size + 1 + 1, 32 * R + 2 * m, none⟩ (.int .i64 y)) := by
            intro y hy
            refine ⟨?_, HF2.out.trans (Fr.setCell _ _ _ rfl)⟩
            have := HO2.out.stored (32 * R + 2 * m) (.int .i64 y)
            rw [hy, ← List.map_set, HSet.out] at this
            rw [hy]; exact this
          have HFin := hid fin
          clear fin hown2 hfr2 HSet
          generalize hi : Ord.ordF (k + 4) R 1 m = i at *
          clear hi
          by_cases hneg : i < 0
          · obtain rfl : i = -1 := by omega
            have HE := hid (Rm.el_neg (k := k) (f := f) (s := 1) (i := -1) (by omega))
            clear hneg hbd
            go_wp2
            go_roundw
            case rel => have h := HFin.out (-1) HE.out.symm; exact ⟨m + 1, by omega, by go_num, h.1, h.2⟩
            case measure => simp [intOf]; omega
          · obtain ⟨i, rfl⟩ := Int.eq_ofNat_of_zero_le (show 0 ≤ i by omega)
            have hib : i ≤ 100000 := by omega
            have C := hid (full2_any f 1 (k + 4) i w.heap.size n1 (w.heap.size + 1) (n1 + 1) (by omega) (by omega) hib wr cs2 (by rw [cd2]; congr 1) cf2 cp2)
            have HY0 := hid (show (if (i : Int) < f then -1 else ((1 * (k + 4) : Nat) : Int) + (i : Int)) = Rm.el k f 1 i by
              unfold Rm.el; by_cases h : (i : Int) < f
              · rw [if_pos h, if_pos (.inr ⟨by omega, h⟩)]
              · rw [if_neg h, if_neg (by omega)])
            rw [HY0.out] at C
            obtain ⟨y, HY⟩ : ∃ y, Hid (y = Rm.el k f 1 i) := ⟨_, rfl⟩
            rw [← HY.out] at C
            clear hneg hbd
            go_wp2_with (refine C.out.mono ?_; rintro e w' ⟨rfl, rfl⟩)
            go_roundw
            case rel => have h := HFin.out y HY.out; exact ⟨m + 1, by omega, by go_num, h.1, h.2⟩
            case measure => simp [intOf]; omega
        · obtain rfl : m = 32 * R := by omega
          go_wp2
          go_roundw
          case rel => exact ⟨1 + 1, by omega, by go_num, by rw [Rm.stL_next (by omega)]; exact hown2, HF1.out.trans hfr2⟩
          case measure => simp [intOf]
    · have HOs := hid (show ∀ w, Calls Try.prog 40 #[.int .i64 ((k : Int) + 4), .int .i64 2] w _ from HO.out 2 (by omega))
      go_wp2_with fail
      refine (HOs.out _).mono ?_
      rintro e w1 ⟨v, rfl, hown1, hB1⟩
      obtain ⟨g, cap, rfl⟩ := hown1.shape (32 * R) (by simp [Ord.outL_len]) (by omega)
      have hgl := (hown1.block (g := g) rfl).1
      have hgs := (hown1.block (g := g) rfl).2
      simp only [World.size_alloc] at hgl
      have HOrd := hid (show ∀ j, j < 32 * R → w1.cell? ⟨g, j, none⟩ = some (.int .i64 (Ord.ordF (k + 4) R 2 j)) from fun j hj => by
        rw [hown1.at j (by simp [Ord.outL_len, hj])]; simp [Ord.outL])
      have hbx : Below wz.heap.size wz (wz.alloc (.cells #[.int .i64 2] 3)) := below_alloc wz _
      have hw1 : Below wz.heap.size wz w1 := hbx.trans (hB1.mono (by simp <;> omega))
      have cs : w1.cell? ⟨wz.heap.size, 0, none⟩ = some (.int .i64 2) := (hB1.cell (p := ⟨wz.heap.size, 0, none⟩) (by simp <;> omega)).trans (by go_simp)
      skip
      have cd : w1.cell? ⟨w.heap.size + 1, 0, none⟩ = some (.int .i64 ((k : Int) + 4)) := (hw1.cell (p := ⟨w.heap.size + 1, 0, none⟩) (by dsimp only; omega)).trans hcd
      have cf : w1.cell? ⟨w.heap.size, 1, none⟩ = some (.int .i64 f) := (hw1.cell (p := ⟨w.heap.size, 1, none⟩) (by dsimp only; omega)).trans hcf
      have HO1 := hid (HO0.out.fr (Fr.of_below hw1) (fun b e => by simp [Value.ownBlock] at e; omega))
      have HF1 := hid (HF0.out.trans ((Fr.of_below hw1).mono (fun b hb h => by omega) : Fr (fun b => b = w.heap.size + 2) wz w1))
      have hs1 : wz.heap.size + 1 ≤ w1.heap.size := by have := hB1.size; simp only [World.size_alloc] at this; omega
      clear hown1 hB1 hbx hw1 hcd hcf HO0 HF0
      clear hne1 hne2 hlt1 hlt0
      generalize wz.heap.size = n1 at hgl hsz hs1 cs  ⊢
      go_wp2
      go_loopw [39] (fun i wr => ∃ m : Nat, m ≤ 32 * R ∧ i = .int .i64 m ∧ OwnL wr w.heap.size 3 (.slice (some ⟨w.heap.size + 1 + 1, 0, none⟩) (96 * R) (96 * R)) ((Rm.partL k f R 2 m).map (Value.int .i64)) ∧ Fr (fun b => b = w.heap.size + 2) w1 wr) (fun i _ => 32 * R - (intOf i).toNat)
      case atStart => exact ⟨0, Nat.zero_le _, rfl, by have := HO1.out; rw [Rm.stL_lt (by omega)] at this; exact this, Fr.refl _ _⟩
      case round =>
        obtain ⟨m, hm, rfl, hown2, hfr2⟩ := hrel
        by_cases hlt : m < 32 * R
        · have ci := (hfr2.cell (p := ⟨g, m, none⟩) hgs (by dsimp only; omega)).trans (HOrd.out m hlt)
          have cs2 := (hfr2.cell (p := ⟨n1, 0, none⟩) (by dsimp only; omega) (by dsimp only; omega)).trans cs
          have cd2 := (hfr2.cell (p := ⟨w.heap.size + 1, 0, none⟩) (by dsimp only; omega) (by dsimp only; omega)).trans cd
          skip
          have hbd := Rm.ordF_bd (k + 4) R 2 m hlt
          have HSet := hid (show (Rm.partL k f R 2 m).set (32 * R + 2 * m + 1) (Rm.el k f 2 (Ord.ordF (k + 4) R 2 m)) = Rm.partL k f R 2 (m + 1) from Rm.partL_set k f R 2 m (by omega) (by omega) hlt)
          have hfrz := hown2.free (32 * R + 2 * m + 1)
          obtain ⟨u, hu⟩ : ∃ u : Value, wr.cell? ⟨w.heap.size + 1 + 1, 32 * R + 2 * m + 1, none⟩ = some u := ⟨_, hown2.at (32 * R + 2 * m + 1) (by simp [Rm.partL_len]; omega)⟩
          have HO2 := hid hown2
          have HF2 := hid hfr2
          have fin : ∀ y : Int, y = Rm.el k f 2 (Ord.ordF (k + 4) R 2 m) → OwnL (wr.setCell ⟨w.heap.size + 1 + 1, 32 * R + 2 * m + 1, none⟩ (.int .i64 y)) w.heap.size 3 (.slice (some ⟨w.heap.size + 1 + 1, 0, none⟩) (96 * R) (96 * R)) ((Rm.partL k f R 2 (m + 1)).map (Value.int .i64)) ∧ Fr (fun b => b = w.heap.size + 2) w1 (wr.setCell ⟨w.heap.size + 1 + 1, 32 * R + 2 * m + 1, none⟩ (.int .i64 y)) := by
            intro y hy
            refine ⟨?_, HF2.out.trans (Fr.setCell _ _ _ rfl)⟩
            have := HO2.out.stored (32 * R + 2 * m + 1) (.int .i64 y)
            rw [hy, ← List.map_set, HSet.out] at this
            rw [hy]; exact this
          have HFin := hid fin
          clear fin hown2 hfr2 HSet
          generalize hi : Ord.ordF (k + 4) R 2 m = i at *
          clear hi
          by_cases hneg : i < 0
          · obtain rfl : i = -1 := by omega
            have HE := hid (Rm.el_neg (k := k) (f := f) (s := 2) (i := -1) (by omega))
            clear hneg hbd
            go_wp2
            go_roundw
            case rel => have h := HFin.out (-1) HE.out.symm; exact ⟨m + 1, by omega, by go_num, h.1, h.2⟩
            case measure => simp [intOf]; omega
          · obtain ⟨i, rfl⟩ := Int.eq_ofNat_of_zero_le (show 0 ≤ i by omega)
            have hib : i ≤ 100000 := by omega
            have C := hid (full1_any 2 (k + 4) i n1 (w.heap.size + 1) (by omega) (by omega) hib wr cs2 (by rw [cd2]; congr 1))
            have HY0 := hid (show ((2 * (k + 4) : Nat) : Int) + (i : Int) = Rm.el k f 2 i by rw [Rm.el_pos (by omega) (by omega)])
            rw [HY0.out] at C
            obtain ⟨y, HY⟩ : ∃ y, Hid (y = Rm.el k f 2 i) := ⟨_, rfl⟩
            rw [← HY.out] at C
            clear hneg hbd
            go_wp2_with (refine C.out.mono ?_; rintro e w' ⟨rfl, rfl⟩)
            go_roundw
            case rel => have h := HFin.out y HY.out; exact ⟨m + 1, by omega, by go_num, h.1, h.2⟩
            case measure => simp [intOf]; omega
        · obtain rfl : m = 32 * R := by omega
          go_wp2
          go_roundw
          case rel => exact ⟨2 + 1, by omega, by go_num, by rw [Rm.stL_next (by omega)]; exact hown2, HF1.out.trans hfr2⟩
          case measure => simp [intOf]
    · go_wp2
      go_ret
      have hB := HBW.out.trans (HF0.out.below HBW.out.size (fun b hb h => by omega))
      exact ⟨⟨_, rfl, by rw [← Rm.stL_end]; exact HO0.out⟩, hB⟩
end Go.Proofs.Ytloldjmibjkkkaa

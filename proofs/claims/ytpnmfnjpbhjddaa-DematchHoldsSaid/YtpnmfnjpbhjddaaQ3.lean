/- Texts of the proof, one after another: RmA RmB RmC RmD RmE RmF Sel9 Cov9 Cov9b. -/
import Derived.Test.YtpnmfnjpbhjddaaQ2
import Derived.StillTailTactics
import Derived.RegionTactic
import Derived.Deep.RegionHeld3
import Derived.IntWalk
import Derived.Outline
import Derived.Deep.QuietTactic
import Derived.BigQuiet
import Derived.Lib.SliceRun
import Derived.Test.YtpnmfnjpbhjddaaQ1
import Derived.Sort.LoopGhostIn
/- userplane/ratematch: of, the closures of full, full. -/
namespace Go.Proofs.Ytpnmfnjpbhjddaa
open Go.RowKit Go.Shelf
set_option linter.unusedVariables false
def wordV (k f R n : Nat) : Value := .agg #[.int .i64 k, .int .i64 f, .int .i64 R, .int .i64 n]
set_option maxHeartbeats 1000000 in
theorem rmOf_ok (k f : Nat) (limit : Int) (hk1 : 40 ≤ k) (hk2 : k ≤ 6144) (hf : f < k) (hl : 1 ≤ limit) (w : World) :
    Calls Try.prog 41 #[.int .i64 k, .int .i64 f, .int .i64 limit] w fun e w' => e = .returned (.tuple #[.agg #[.int .i64 k, .int .i64 f, .int .i64 (Rm.rows k), .int .i64 (Rm.size k limit)], .int .i64 0]) ∧ Below w.heap.size w w' := by
  have HC := hid (show ∀ w, Calls Try.prog 51 #[.int .i64 ((k : Int) + 4)] w fun e w' => e = .returned (.int .i64 (Rm.rows k)) ∧ w = w' from fun w => by
    have := rows_any ((k : Int) + 4) w
    rw [Cols.rowsZ_in (by omega) (by omega)] at this
    rw [show ((Rm.rows k : Nat) : Int) = ((k : Int) + 4 + 31) / 32 by unfold Rm.rows; omega]
    exact this)
  have hR : Rm.rows k ≤ 200 := by unfold Rm.rows; omega
  have HS := hid (show ((Rm.size k limit : Nat) : Int) = if limit ≤ 96 * (Rm.rows k : Int) then limit else 96 * (Rm.rows k : Int) by unfold Rm.size; split <;> omega)
  generalize Rm.rows k = R at *
  generalize Rm.size k limit = S at *
  have hfk : decide ((k : Int) ≤ (f : Int)) = false := by simp; omega
  have hfk2 : decide (k ≤ f) = false := by simp; omega
  by_cases hle : limit ≤ 96 * (R : Int)
  · have HS2 := hid (show ((S : Nat) : Int) = limit by rw [HS.out, if_pos hle])
    go_enter Try.func41, Try.ntmps41
    go_wp2_with (go_at_call 51; refine (HC.out _).mono ?_; rintro e w' ⟨rfl, rfl⟩)
    all_goals (
      rw [HS2.out]
      first
      | exact bodyPost_ret (v := .tuple #[.agg #[.int .i64 k, .int .i64 f, .int .i64 R, .int .i64 limit], .int .i64 0]) (by simp [results, Try.results41, go_sem]) rfl ⟨rfl, below_alloc _ _⟩
      | (exfalso; omega))
  · have HS2 := hid (show ((S : Nat) : Int) = 96 * (R : Int) by rw [HS.out, if_neg hle])
    go_enter Try.func41, Try.ntmps41
    go_wp2_with (go_at_call 51; refine (HC.out _).mono ?_; rintro e w' ⟨rfl, rfl⟩)
    all_goals (
      rw [HS2.out]
      first
      | exact bodyPost_ret (v := .tuple #[.agg #[.int .i64 k, .int .i64 f, .int .i64 R, .int .i64 (96 * (R : Int))], .int .i64 0]) (by simp [results, Try.results41, go_sem]) rfl ⟨rfl, below_alloc _ _⟩
      | (exfalso; omega))
theorem rmOf_err (k f limit : Int) (h : Rm.valid k f limit = false) (w : World) :
    Calls Try.prog 41 #[.int .i64 k, .int .i64 f, .int .i64 limit] w fun e w' => e = .returned (.tuple #[.agg #[.int .i64 0, .int .i64 0, .int .i64 0, .int .i64 0], .int .i64 2]) ∧ Below w.heap.size w w' := by
  have hv := Rm.valid_no h
  clear h
  by_cases h1 : k < 40
  · go_enter Try.func41, Try.ntmps41
    go_wp2
    exact bodyPost_ret (v := .tuple #[.agg #[.int .i64 0, .int .i64 0, .int .i64 0, .int .i64 0], .int .i64 2]) (by simp [results, Try.results41, go_sem]) rfl ⟨rfl, below_alloc _ _⟩
  by_cases h2 : 6144 < k
  · go_enter Try.func41, Try.ntmps41
    go_wp2
    exact bodyPost_ret (v := .tuple #[.agg #[.int .i64 0, .int .i64 0, .int .i64 0, .int .i64 0], .int .i64 2]) (by simp [results, Try.results41, go_sem]) rfl ⟨rfl, below_alloc _ _⟩
  by_cases h3 : f < 0
  · go_enter Try.func41, Try.ntmps41
    go_wp2
    exact bodyPost_ret (v := .tuple #[.agg #[.int .i64 0, .int .i64 0, .int .i64 0, .int .i64 0], .int .i64 2]) (by simp [results, Try.results41, go_sem]) rfl ⟨rfl, below_alloc _ _⟩
  by_cases h4 : k ≤ f
  · go_enter Try.func41, Try.ntmps41
    go_wp2
    exact bodyPost_ret (v := .tuple #[.agg #[.int .i64 0, .int .i64 0, .int .i64 0, .int .i64 0], .int .i64 2]) (by simp [results, Try.results41, go_sem]) rfl ⟨rfl, below_alloc _ _⟩
  have h5 : limit < 1 := by omega
  clear hv
  go_enter Try.func41, Try.ntmps41
  go_wp2
  exact bodyPost_ret (v := .tuple #[.agg #[.int .i64 0, .int .i64 0, .int .i64 0, .int .i64 0], .int .i64 2]) (by simp [results, Try.results41, go_sem]) rfl ⟨rfl, below_alloc _ _⟩
/-- The plain position. -/
theorem full1_any (s d i bs bd : Nat) (hs : s ≤ 2) (hd : d ≤ 6148) (hi : i ≤ 100000) (w : World) (h1 : w.cell? ⟨bs, 0, none⟩ = some (.int .i64 s)) (h2 : w.cell? ⟨bd, 0, none⟩ = some (.int .i64 d)) :
    Calls Try.prog 57 #[.int .i64 i, .pointer (some ⟨bs, 0, none⟩), .pointer (some ⟨bd, 0, none⟩)] w fun e w' => e = .returned (.int .i64 ((s * d : Nat) + (i : Int))) ∧ w = w' := by
  have hsd : s * d ≤ 2 * 6148 := Nat.mul_le_mul hs hd
  have hmul : ((s * d : Nat) : Int) = (s : Int) * (d : Int) := Int.natCast_mul _ _
  rw [hmul] at *
  have hb : (s : Int) * (d : Int) ≤ 12296 := by rw [← hmul]; omega
  have hb0 : 0 ≤ (s : Int) * (d : Int) := by rw [← hmul]; omega
  clear hmul hsd
  go_enter Try.func57, Try.ntmps57
  go_wp2
  go_ret
  exact ⟨rfl, rfl⟩
theorem full2_any (f s d i bw bs bd bp : Nat) (hs : s ≤ 2) (hd : d ≤ 6148) (hi : i ≤ 100000) (w : World) (h1 : w.cell? ⟨bs, 0, none⟩ = some (.int .i64 s)) (h2 : w.cell? ⟨bd, 0, none⟩ = some (.int .i64 d)) (h3 : w.cell? ⟨bw, 1, none⟩ = some (.int .i64 f))
    (h4 : w.cell? ⟨bp, 0, none⟩ = some (.func (.func 57) #[] #[.pointer (some ⟨bs, 0, none⟩), .pointer (some ⟨bd, 0, none⟩)])) :
    Calls Try.prog 58 #[.int .i64 i, .pointer (some ⟨bw, 0, none⟩), .pointer (some ⟨bp, 0, none⟩)] w fun e w' => e = .returned (.int .i64 (if (i : Int) < f then -1 else (s * d : Nat) + (i : Int))) ∧ w = w' := by
  have C := hid (full1_any s d i bs bd hs hd hi w h1 h2)
  clear h1 h2
  by_cases h : i < f
  · have hd : decide ((i : Int) < (f : Int)) = true := by simp; omega
    rw [if_pos (by omega)]
    go_enter Try.func58, Try.ntmps58
    go_wp2
    go_ret
    exact ⟨rfl, rfl⟩
  · have hd : decide ((i : Int) < (f : Int)) = false := by simp; omega
    rw [if_neg (by omega)]
    generalize ((s * d : Nat) : Int) + (i : Int) = y at *
    go_enter Try.func58, Try.ntmps58
    go_wp2_with (refine C.out.mono ?_; rintro e w' ⟨rfl, rfl⟩)
    go_ret
    exact ⟨rfl, rfl⟩
end Go.Proofs.Ytpnmfnjpbhjddaa
/- userplane/ratematch: full. -/
namespace Go.Proofs.Ytpnmfnjpbhjddaa
open Go.RowKit Go.Shelf
set_option linter.unusedVariables false
namespace Rm
theorem ordF_bd (d R : Nat) (s : Int) (m : Nat) (hm : m < 32 * R) : -1 ≤ Ord.ordF d R s m ∧ Ord.ordF d R s m < 32 * R := by
  have := Ord.idx2_lt (s := s) hm
  unfold Ord.ordF Ord.matF
  split <;> omega
/-- What is filled in when the streams below s are done. -/
def stL (k f R s : Nat) : List Int := if s < 3 then partL k f R s 0 else fullL k f R
theorem stL_lt {k f R s : Nat} (h : s < 3) : stL k f R s = partL k f R s 0 := if_pos h
theorem stL_next {k f R s : Nat} (h : s < 3) : stL k f R (s + 1) = partL k f R s (32 * R) := by
  by_cases h2 : s < 2
  · rw [stL, if_pos (by omega), partL_next h2]
  · obtain rfl : s = 2 := by omega
    rw [stL, if_neg (by omega), partL_full]
theorem stL_end (k f R : Nat) : stL k f R 3 = fullL k f R := rfl
end Rm
set_option maxRecDepth 100000 in
set_option maxHeartbeats 8000000 in
theorem full_any (k f R n : Nat) (hk1 : 40 ≤ k) (hk2 : k ≤ 6144) (hf : f < k) (hR1 : k + 4 ≤ 32 * R) (hR2 : 32 * R < k + 4 + 32) (w : World) :
    Calls Try.prog 52 #[wordV k f R n] w fun e w' => (∃ v', e = .returned v' ∧ OwnL w' w.heap.size 3 v' ((Rm.fullL k f R).map (Value.int .i64))) ∧ Below w.heap.size w w' := by
  have HO := hid (show ∀ (s : Nat), s ≤ 2 → ∀ w, Calls Try.prog 59 #[.int .i64 ((k : Int) + 4), .int .i64 s] w fun e w' => ∃ v, e = .returned (.tuple #[v, .int .i64 0]) ∧ OwnL w' w.heap.size 3 v ((Ord.outL (k + 4) R s (32 * R)).map (Value.int .i64)) ∧ Below w.heap.size w w' from
    fun s hs w => order_ok (k + 4) R s (by omega) (by omega) hR1 hR2 (by omega) (by omega) w)
  have hRb : R ≤ 200 := by omega
  have hR0 : 2 ≤ R := by omega
  unfold wordV
  go_enter Try.func52, Try.ntmps52
  go_wp2
  go_region
  go_wp2_with (at_make; refine wpList_run_value rfl (exec_make_one elem_int (.tmp 21) (.tmp 21) rfl .i64 .i64 _ _ (96 * R) (96 * R) rfl rfl (by omega) (by omega) (Nat.le_refl _) (by omega) (by omega)) ?_)
  generalize hW : World.drew _ = W
  replace hW := hW.symm
  have hWs : W.heap.size = w.heap.size + 3 := by rw [hW]; simp
  have hBW : Below w.heap.size w W := by
    rw [hW]
    have h3 : Below w.heap.size w (((w.alloc (.cells #[.int .i64 k, .int .i64 f, .int .i64 R, .int .i64 n] 70)).alloc (.cells #[.int .i64 ((k : Int) + 4)] 3)).alloc (.cells (Array.replicate (96 * R) (.int .i64 0)) 3)) := (((Below.refl _ _).alloc (Nat.le_refl _) _).alloc (by simp) _).alloc (by simp; omega) _
    exact h3.trans ((Fr.drew (fun _ => False) _).below h3.size (fun _ _ h => h))
  have hcf : W.cell? ⟨w.heap.size, 1, none⟩ = some (.int .i64 f) := by rw [hW]; go_simp
  have hcd : W.cell? ⟨w.heap.size + 1, 0, none⟩ = some (.int .i64 ((k : Int) + 4)) := by rw [hW]; go_simp
  have hown : OwnL W w.heap.size 3 (.slice (some ⟨w.heap.size + 1 + 1, 0, none⟩) (96 * R) (96 * R)) ((Rm.stL k f R 0).map (Value.int .i64)) := by
    rw [Rm.stL_lt (by omega), Rm.partL_zero, List.map_replicate, hW]
    have h1 := OwnL.zeros ((w.alloc (.cells #[.int .i64 k, .int .i64 f, .int .i64 R, .int .i64 n] 70)).alloc (.cells #[.int .i64 ((k : Int) + 4)] 3)) w.heap.size 3 (96 * R) (.int .i64 0) (by simp; omega) (by omega)
    simp only [World.size_alloc] at h1
    exact h1.fr (Fr.drew (fun _ => False) _) (fun _ _ h => h)
  have HBW := hid hBW
  have HWs := hid hWs
  have Hcf := hid hcf
  have Hcd := hid hcd
  have Hown := hid hown
  clear hW hBW hcf hcd hown hWs
  go_loopw [23] (fun i wr => ∃ s : Nat, s ≤ 3 ∧ i = .int .i64 s ∧ OwnL wr w.heap.size 3 (.slice (some ⟨w.heap.size + 1 + 1, 0, none⟩) (96 * R) (96 * R)) ((Rm.stL k f R s).map (Value.int .i64)) ∧ Fr (fun b => b = w.heap.size + 2) W wr) (fun i _ => 3 - (intOf i).toNat)
  case atStart => exact ⟨0, by omega, rfl, Hown.out, Fr.refl _ _⟩
  case round =>
    clear Hown
    obtain ⟨s, hs, rfl, hown, hfr⟩ := hrel
    obtain ⟨wz, hwz⟩ : ∃ wz, wz = wr := ⟨_, rfl⟩
    subst hwz
    have hsz : w.heap.size + 3 ≤ wz.heap.size := by have := hfr.size; have := HWs.out; omega
    have hcd : wz.cell? ⟨w.heap.size + 1, 0, none⟩ = some (.int .i64 ((k : Int) + 4)) := (hfr.cell (p := ⟨w.heap.size + 1, 0, none⟩) (by have := HWs.out; dsimp only; omega) (by dsimp only; omega)).trans Hcd.out
    have hcf : wz.cell? ⟨w.heap.size, 1, none⟩ = some (.int .i64 f) := (hfr.cell (p := ⟨w.heap.size, 1, none⟩) (by have := HWs.out; dsimp only; omega) (by dsimp only; omega)).trans Hcf.out
    have HO0 := hid hown
    have HF0 := hid hfr
    clear hown hfr
    have hne1 : ¬ w.heap.size + 1 = wz.heap.size := by omega
    have hne2 : ¬ w.heap.size + 1 = wz.heap.size + 1 := by omega
    have hlt1 : w.heap.size + 1 < wz.heap.size := by omega
    have hlt0 : w.heap.size < wz.heap.size := by omega
    rcases (show s = 0 ∨ s = 1 ∨ s = 2 ∨ s = 3 by omega) with rfl | rfl | rfl | rfl
    · have HOs := hid (show ∀ w, Calls Try.prog 59 #[.int .i64 ((k : Int) + 4), .int .i64 0] w _ from HO.out 0 (by omega))
      go_wp2_with fail
      refine (HOs.out _).mono ?_
      rintro e w1 ⟨v, rfl, hown1, hB1⟩
      obtain ⟨g, cap, rfl⟩ := hown1.shape (32 * R) (by simp [Ord.outL_len]) (by omega)
      have hgl := (hown1.block (g := g) rfl).1
      have hgs := (hown1.block (g := g) rfl).2
      simp only [World.size_alloc] at hgl
      have HOrd := hid (show ∀ j, j < 32 * R → w1.cell? ⟨g, j, none⟩ = some (.int .i64 (Ord.ordF (k + 4) R 0 j)) from fun j hj => by
        rw [hown1.at j (by simp [Ord.outL_len, hj])]; simp [Ord.outL])
      have hbx : Below wz.heap.size wz ((wz.alloc (.cells #[.int .i64 0] 3)).alloc (.cells #[.func (.func 57) #[] #[.pointer (some ⟨wz.heap.size, 0, none⟩), .pointer (some ⟨w.heap.size + 1, 0, none⟩)]] 62)) := two_boxes wz _ _
      have hw1 : Below wz.heap.size wz w1 := hbx.trans (hB1.mono (by simp <;> omega))
      have cs : w1.cell? ⟨wz.heap.size, 0, none⟩ = some (.int .i64 0) := (hB1.cell (p := ⟨wz.heap.size, 0, none⟩) (by simp <;> omega)).trans (by go_simp)
      have cp : w1.cell? ⟨wz.heap.size + 1, 0, none⟩ = some (.func (.func 57) #[] #[.pointer (some ⟨wz.heap.size, 0, none⟩), .pointer (some ⟨w.heap.size + 1, 0, none⟩)]) := (hB1.cell (p := ⟨wz.heap.size + 1, 0, none⟩) (by simp)).trans (by go_simp)
      have cd : w1.cell? ⟨w.heap.size + 1, 0, none⟩ = some (.int .i64 ((k : Int) + 4)) := (hw1.cell (p := ⟨w.heap.size + 1, 0, none⟩) (by dsimp only; omega)).trans hcd
      have cf : w1.cell? ⟨w.heap.size, 1, none⟩ = some (.int .i64 f) := (hw1.cell (p := ⟨w.heap.size, 1, none⟩) (by dsimp only; omega)).trans hcf
      have HO1 := hid (HO0.out.fr (Fr.of_below hw1) (fun b e => by simp [Value.ownBlock] at e; omega))
      have HF1 := hid (HF0.out.trans ((Fr.of_below hw1).mono (fun b hb h => by omega) : Fr (fun b => b = w.heap.size + 2) wz w1))
      have hs1 : wz.heap.size + 2 ≤ w1.heap.size := by have := hB1.size; simp only [World.size_alloc] at this; omega
      clear hown1 hB1 hbx hw1 hcd hcf HO0 HF0
      clear hne1 hne2 hlt1 hlt0
      generalize wz.heap.size = n1 at hgl hsz hs1 cs cp ⊢
      go_wp2
      go_loopw [39] (fun i wr => ∃ m : Nat, m ≤ 32 * R ∧ i = .int .i64 m ∧ OwnL wr w.heap.size 3 (.slice (some ⟨w.heap.size + 1 + 1, 0, none⟩) (96 * R) (96 * R)) ((Rm.partL k f R 0 m).map (Value.int .i64)) ∧ Fr (fun b => b = w.heap.size + 2) w1 wr) (fun i _ => 32 * R - (intOf i).toNat)
      case atStart => exact ⟨0, Nat.zero_le _, rfl, by have := HO1.out; rw [Rm.stL_lt (by omega)] at this; exact this, Fr.refl _ _⟩
      case round =>
        obtain ⟨m, hm, rfl, hown2, hfr2⟩ := hrel
        by_cases hlt : m < 32 * R
        · have ci := (hfr2.cell (p := ⟨g, m, none⟩) hgs (by dsimp only; omega)).trans (HOrd.out m hlt)
          have cs2 := (hfr2.cell (p := ⟨n1, 0, none⟩) (by dsimp only; omega) (by dsimp only; omega)).trans cs
          have cd2 := (hfr2.cell (p := ⟨w.heap.size + 1, 0, none⟩) (by dsimp only; omega) (by dsimp only; omega)).trans cd
          have cp2 := (hfr2.cell (p := ⟨n1 + 1, 0, none⟩) (by dsimp only; omega) (by dsimp only; omega)).trans cp
          have cf2 := (hfr2.cell (p := ⟨w.heap.size, 1, none⟩) (by dsimp only; omega) (by dsimp only; omega)).trans cf
          have hbd := Rm.ordF_bd (k + 4) R 0 m hlt
          have HSet := hid (Rm.partL_set0 k f R m hlt)
          have hfrz := hown2.free (m)
          obtain ⟨u, hu⟩ : ∃ u : Value, wr.cell? ⟨w.heap.size + 1 + 1, m, none⟩ = some u := ⟨_, hown2.at (m) (by simp [Rm.partL_len]; omega)⟩
          have HO2 := hid hown2
          have HF2 := hid hfr2
          have fin : ∀ y : Int, y = Rm.el k f 0 (Ord.ordF (k + 4) R 0 m) → OwnL (wr.setCell ⟨w.heap.size + 1 + 1, m, none⟩ (.int .i64 y)) w.heap.size 3 (.slice (some ⟨w.heap.size + 1 + 1, 0, none⟩) (96 * R) (96 * R)) ((Rm.partL k f R 0 (m + 1)).map (Value.int .i64)) ∧ Fr (fun b => b = w.heap.size + 2) w1 (wr.setCell ⟨w.heap.size + 1 + 1, m, none⟩ (.int .i64 y)) := by
            intro y hy
            refine ⟨?_, HF2.out.trans (Fr.setCell _ _ _ rfl)⟩
            have := HO2.out.stored (m) (.int .i64 y)
            rw [hy, ← List.map_set, HSet.out] at this
            rw [hy]; exact this
          have HFin := hid fin
          clear fin hown2 hfr2 HSet
          generalize hi : Ord.ordF (k + 4) R 0 m = i at *
          clear hi
          by_cases hneg : i < 0
          · obtain rfl : i = -1 := by omega
            have HE := hid (Rm.el_neg (k := k) (f := f) (s := 0) (i := -1) (by omega))
            clear hneg hbd
            go_wp2
            go_roundw
            case rel => have h := HFin.out (-1) HE.out.symm; exact ⟨m + 1, by omega, by go_num, h.1, h.2⟩
            case measure => simp [intOf]; omega
          · obtain ⟨i, rfl⟩ := Int.eq_ofNat_of_zero_le (show 0 ≤ i by omega)
            have hib : i ≤ 100000 := by omega
            have C := hid (full2_any f 0 (k + 4) i w.heap.size n1 (w.heap.size + 1) (n1 + 1) (by omega) (by omega) hib wr cs2 (by rw [cd2]; congr 1) cf2 cp2)
            have HY0 := hid (show (if (i : Int) < f then -1 else ((0 * (k + 4) : Nat) : Int) + (i : Int)) = Rm.el k f 0 i by
              unfold Rm.el; by_cases h : (i : Int) < f
              · rw [if_pos h, if_pos (.inr ⟨by omega, h⟩)]
              · rw [if_neg h, if_neg (by omega)])
            rw [HY0.out] at C
            obtain ⟨y, HY⟩ : ∃ y, Hid (y = Rm.el k f 0 i) := ⟨_, rfl⟩
            rw [← HY.out] at C
            clear hneg hbd
            go_wp2_with (refine C.out.mono ?_; rintro e w' ⟨rfl, rfl⟩)
            go_roundw
            case rel => have h := HFin.out y HY.out; exact ⟨m + 1, by omega, by go_num, h.1, h.2⟩
            case measure => simp [intOf]; omega
        · obtain rfl : m = 32 * R := by omega
          go_wp2
          go_roundw
          case rel => exact ⟨0 + 1, by omega, by go_num, by rw [Rm.stL_next (by omega)]; exact hown2, HF1.out.trans hfr2⟩
          case measure => simp [intOf]
    · have HOs := hid (show ∀ w, Calls Try.prog 59 #[.int .i64 ((k : Int) + 4), .int .i64 1] w _ from HO.out 1 (by omega))
      go_wp2_with fail
      refine (HOs.out _).mono ?_
      rintro e w1 ⟨v, rfl, hown1, hB1⟩
      obtain ⟨g, cap, rfl⟩ := hown1.shape (32 * R) (by simp [Ord.outL_len]) (by omega)
      have hgl := (hown1.block (g := g) rfl).1
      have hgs := (hown1.block (g := g) rfl).2
      simp only [World.size_alloc] at hgl
      have HOrd := hid (show ∀ j, j < 32 * R → w1.cell? ⟨g, j, none⟩ = some (.int .i64 (Ord.ordF (k + 4) R 1 j)) from fun j hj => by
        rw [hown1.at j (by simp [Ord.outL_len, hj])]; simp [Ord.outL])
      have hbx : Below wz.heap.size wz ((wz.alloc (.cells #[.int .i64 1] 3)).alloc (.cells #[.func (.func 57) #[] #[.pointer (some ⟨wz.heap.size, 0, none⟩), .pointer (some ⟨w.heap.size + 1, 0, none⟩)]] 62)) := two_boxes wz _ _
      have hw1 : Below wz.heap.size wz w1 := hbx.trans (hB1.mono (by simp <;> omega))
      have cs : w1.cell? ⟨wz.heap.size, 0, none⟩ = some (.int .i64 1) := (hB1.cell (p := ⟨wz.heap.size, 0, none⟩) (by simp <;> omega)).trans (by go_simp)
      have cp : w1.cell? ⟨wz.heap.size + 1, 0, none⟩ = some (.func (.func 57) #[] #[.pointer (some ⟨wz.heap.size, 0, none⟩), .pointer (some ⟨w.heap.size + 1, 0, none⟩)]) := (hB1.cell (p := ⟨wz.heap.size + 1, 0, none⟩) (by simp)).trans (by go_simp)
      have cd : w1.cell? ⟨w.heap.size + 1, 0, none⟩ = some (.int .i64 ((k : Int) + 4)) := (hw1.cell (p := ⟨w.heap.size + 1, 0, none⟩) (by dsimp only; omega)).trans hcd
      have cf : w1.cell? ⟨w.heap.size, 1, none⟩ = some (.int .i64 f) := (hw1.cell (p := ⟨w.heap.size, 1, none⟩) (by dsimp only; omega)).trans hcf
      have HO1 := hid (HO0.out.fr (Fr.of_below hw1) (fun b e => by simp [Value.ownBlock] at e; omega))
      have HF1 := hid (HF0.out.trans ((Fr.of_below hw1).mono (fun b hb h => by omega) : Fr (fun b => b = w.heap.size + 2) wz w1))
      have hs1 : wz.heap.size + 2 ≤ w1.heap.size := by have := hB1.size; simp only [World.size_alloc] at this; omega
      clear hown1 hB1 hbx hw1 hcd hcf HO0 HF0
      clear hne1 hne2 hlt1 hlt0
      generalize wz.heap.size = n1 at hgl hsz hs1 cs cp ⊢
      go_wp2
      go_loopw [39] (fun i wr => ∃ m : Nat, m ≤ 32 * R ∧ i = .int .i64 m ∧ OwnL wr w.heap.size 3 (.slice (some ⟨w.heap.size + 1 + 1, 0, none⟩) (96 * R) (96 * R)) ((Rm.partL k f R 1 m).map (Value.int .i64)) ∧ Fr (fun b => b = w.heap.size + 2) w1 wr) (fun i _ => 32 * R - (intOf i).toNat)
      case atStart => exact ⟨0, Nat.zero_le _, rfl, by have := HO1.out; rw [Rm.stL_lt (by omega)] at this; exact this, Fr.refl _ _⟩
      case round =>
        obtain ⟨m, hm, rfl, hown2, hfr2⟩ := hrel
        by_cases hlt : m < 32 * R
        · have ci := (hfr2.cell (p := ⟨g, m, none⟩) hgs (by dsimp only; omega)).trans (HOrd.out m hlt)
          have cs2 := (hfr2.cell (p := ⟨n1, 0, none⟩) (by dsimp only; omega) (by dsimp only; omega)).trans cs
          have cd2 := (hfr2.cell (p := ⟨w.heap.size + 1, 0, none⟩) (by dsimp only; omega) (by dsimp only; omega)).trans cd
          have cp2 := (hfr2.cell (p := ⟨n1 + 1, 0, none⟩) (by dsimp only; omega) (by dsimp only; omega)).trans cp
          have cf2 := (hfr2.cell (p := ⟨w.heap.size, 1, none⟩) (by dsimp only; omega) (by dsimp only; omega)).trans cf
          have hbd := Rm.ordF_bd (k + 4) R 1 m hlt
          have HSet := hid (show (Rm.partL k f R 1 m).set (32 * R + 2 * m) (Rm.el k f 1 (Ord.ordF (k + 4) R 1 m)) = Rm.partL k f R 1 (m + 1) from Rm.partL_set k f R 1 m (by omega) (by omega) hlt)
          have hfrz := hown2.free (32 * R + 2 * m)
          obtain ⟨u, hu⟩ : ∃ u : Value, wr.cell? ⟨w.heap.size + 1 + 1, 32 * R + 2 * m, none⟩ = some u := ⟨_, hown2.at (32 * R + 2 * m) (by simp [Rm.partL_len]; omega)⟩
          have HO2 := hid hown2
          have HF2 := hid hfr2
          have fin : ∀ y : Int, y = Rm.el k f 1 (Ord.ordF (k + 4) R 1 m) → OwnL (wr.setCell ⟨w.heap.size + 1 + 1, 32 * R + 2 * m, none⟩ (.int .i64 y)) w.heap.size 3 (.slice (some ⟨w.heap.size + 1 + 1, 0, none⟩) (96 * R) (96 * R)) ((Rm.partL k f R 1 (m + 1)).map (Value.int .i64)) ∧ Fr (fun b => b = w.heap.size + 2) w1 (wr.setCell ⟨w.heap.size + 1 + 1, 32 * R + 2 * m, none⟩ (.int .i64 y)) := by
            intro y hy
            refine ⟨?_, HF2.out.trans (Fr.setCell _ _ _ rfl)⟩
            have := HO2.out.stored (32 * R + 2 * m) (.int .i64 y)
            rw [hy, ← List.map_set, HSet.out] at this
            rw [hy]; exact this
          have HFin := hid fin
          clear fin hown2 hfr2 HSet
          generalize hi : Ord.ordF (k + 4) R 1 m = i at *
          clear hi
          by_cases hneg : i < 0
          · obtain rfl : i = -1 := by omega
            have HE := hid (Rm.el_neg (k := k) (f := f) (s := 1) (i := -1) (by omega))
            clear hneg hbd
            go_wp2
            go_roundw
            case rel => have h := HFin.out (-1) HE.out.symm; exact ⟨m + 1, by omega, by go_num, h.1, h.2⟩
            case measure => simp [intOf]; omega
          · obtain ⟨i, rfl⟩ := Int.eq_ofNat_of_zero_le (show 0 ≤ i by omega)
            have hib : i ≤ 100000 := by omega
            have C := hid (full2_any f 1 (k + 4) i w.heap.size n1 (w.heap.size + 1) (n1 + 1) (by omega) (by omega) hib wr cs2 (by rw [cd2]; congr 1) cf2 cp2)
            have HY0 := hid (show (if (i : Int) < f then -1 else ((1 * (k + 4) : Nat) : Int) + (i : Int)) = Rm.el k f 1 i by
              unfold Rm.el; by_cases h : (i : Int) < f
              · rw [if_pos h, if_pos (.inr ⟨by omega, h⟩)]
              · rw [if_neg h, if_neg (by omega)])
            rw [HY0.out] at C
            obtain ⟨y, HY⟩ : ∃ y, Hid (y = Rm.el k f 1 i) := ⟨_, rfl⟩
            rw [← HY.out] at C
            clear hneg hbd
            go_wp2_with (refine C.out.mono ?_; rintro e w' ⟨rfl, rfl⟩)
            go_roundw
            case rel => have h := HFin.out y HY.out; exact ⟨m + 1, by omega, by go_num, h.1, h.2⟩
            case measure => simp [intOf]; omega
        · obtain rfl : m = 32 * R := by omega
          go_wp2
          go_roundw
          case rel => exact ⟨1 + 1, by omega, by go_num, by rw [Rm.stL_next (by omega)]; exact hown2, HF1.out.trans hfr2⟩
          case measure => simp [intOf]
    · have HOs := hid (show ∀ w, Calls Try.prog 59 #[.int .i64 ((k : Int) + 4), .int .i64 2] w _ from HO.out 2 (by omega))
      go_wp2_with fail
      refine (HOs.out _).mono ?_
      rintro e w1 ⟨v, rfl, hown1, hB1⟩
      obtain ⟨g, cap, rfl⟩ := hown1.shape (32 * R) (by simp [Ord.outL_len]) (by omega)
      have hgl := (hown1.block (g := g) rfl).1
      have hgs := (hown1.block (g := g) rfl).2
      simp only [World.size_alloc] at hgl
      have HOrd := hid (show ∀ j, j < 32 * R → w1.cell? ⟨g, j, none⟩ = some (.int .i64 (Ord.ordF (k + 4) R 2 j)) from fun j hj => by
        rw [hown1.at j (by simp [Ord.outL_len, hj])]; simp [Ord.outL])
      have hbx : Below wz.heap.size wz (wz.alloc (.cells #[.int .i64 2] 3)) := below_alloc wz _
      have hw1 : Below wz.heap.size wz w1 := hbx.trans (hB1.mono (by simp <;> omega))
      have cs : w1.cell? ⟨wz.heap.size, 0, none⟩ = some (.int .i64 2) := (hB1.cell (p := ⟨wz.heap.size, 0, none⟩) (by simp <;> omega)).trans (by go_simp)
      skip
      have cd : w1.cell? ⟨w.heap.size + 1, 0, none⟩ = some (.int .i64 ((k : Int) + 4)) := (hw1.cell (p := ⟨w.heap.size + 1, 0, none⟩) (by dsimp only; omega)).trans hcd
      have cf : w1.cell? ⟨w.heap.size, 1, none⟩ = some (.int .i64 f) := (hw1.cell (p := ⟨w.heap.size, 1, none⟩) (by dsimp only; omega)).trans hcf
      have HO1 := hid (HO0.out.fr (Fr.of_below hw1) (fun b e => by simp [Value.ownBlock] at e; omega))
      have HF1 := hid (HF0.out.trans ((Fr.of_below hw1).mono (fun b hb h => by omega) : Fr (fun b => b = w.heap.size + 2) wz w1))
      have hs1 : wz.heap.size + 1 ≤ w1.heap.size := by have := hB1.size; simp only [World.size_alloc] at this; omega
      clear hown1 hB1 hbx hw1 hcd hcf HO0 HF0
      clear hne1 hne2 hlt1 hlt0
      generalize wz.heap.size = n1 at hgl hsz hs1 cs  ⊢
      go_wp2
      go_loopw [39] (fun i wr => ∃ m : Nat, m ≤ 32 * R ∧ i = .int .i64 m ∧ OwnL wr w.heap.size 3 (.slice (some ⟨w.heap.size + 1 + 1, 0, none⟩) (96 * R) (96 * R)) ((Rm.partL k f R 2 m).map (Value.int .i64)) ∧ Fr (fun b => b = w.heap.size + 2) w1 wr) (fun i _ => 32 * R - (intOf i).toNat)
      case atStart => exact ⟨0, Nat.zero_le _, rfl, by have := HO1.out; rw [Rm.stL_lt (by omega)] at this; exact this, Fr.refl _ _⟩
      case round =>
        obtain ⟨m, hm, rfl, hown2, hfr2⟩ := hrel
        by_cases hlt : m < 32 * R
        · have ci := (hfr2.cell (p := ⟨g, m, none⟩) hgs (by dsimp only; omega)).trans (HOrd.out m hlt)
          have cs2 := (hfr2.cell (p := ⟨n1, 0, none⟩) (by dsimp only; omega) (by dsimp only; omega)).trans cs
          have cd2 := (hfr2.cell (p := ⟨w.heap.size + 1, 0, none⟩) (by dsimp only; omega) (by dsimp only; omega)).trans cd
          skip
          have hbd := Rm.ordF_bd (k + 4) R 2 m hlt
          have HSet := hid (show (Rm.partL k f R 2 m).set (32 * R + 2 * m + 1) (Rm.el k f 2 (Ord.ordF (k + 4) R 2 m)) = Rm.partL k f R 2 (m + 1) from Rm.partL_set k f R 2 m (by omega) (by omega) hlt)
          have hfrz := hown2.free (32 * R + 2 * m + 1)
          obtain ⟨u, hu⟩ : ∃ u : Value, wr.cell? ⟨w.heap.size + 1 + 1, 32 * R + 2 * m + 1, none⟩ = some u := ⟨_, hown2.at (32 * R + 2 * m + 1) (by simp [Rm.partL_len]; omega)⟩
          have HO2 := hid hown2
          have HF2 := hid hfr2
          have fin : ∀ y : Int, y = Rm.el k f 2 (Ord.ordF (k + 4) R 2 m) → OwnL (wr.setCell ⟨w.heap.size + 1 + 1, 32 * R + 2 * m + 1, none⟩ (.int .i64 y)) w.heap.size 3 (.slice (some ⟨w.heap.size + 1 + 1, 0, none⟩) (96 * R) (96 * R)) ((Rm.partL k f R 2 (m + 1)).map (Value.int .i64)) ∧ Fr (fun b => b = w.heap.size + 2) w1 (wr.setCell ⟨w.heap.size + 1 + 1, 32 * R + 2 * m + 1, none⟩ (.int .i64 y)) := by
            intro y hy
            refine ⟨?_, HF2.out.trans (Fr.setCell _ _ _ rfl)⟩
            have := HO2.out.stored (32 * R + 2 * m + 1) (.int .i64 y)
            rw [hy, ← List.map_set, HSet.out] at this
            rw [hy]; exact this
          have HFin := hid fin
          clear fin hown2 hfr2 HSet
          generalize hi : Ord.ordF (k + 4) R 2 m = i at *
          clear hi
          by_cases hneg : i < 0
          · obtain rfl : i = -1 := by omega
            have HE := hid (Rm.el_neg (k := k) (f := f) (s := 2) (i := -1) (by omega))
            clear hneg hbd
            go_wp2
            go_roundw
            case rel => have h := HFin.out (-1) HE.out.symm; exact ⟨m + 1, by omega, by go_num, h.1, h.2⟩
            case measure => simp [intOf]; omega
          · obtain ⟨i, rfl⟩ := Int.eq_ofNat_of_zero_le (show 0 ≤ i by omega)
            have hib : i ≤ 100000 := by omega
            have C := hid (full1_any 2 (k + 4) i n1 (w.heap.size + 1) (by omega) (by omega) hib wr cs2 (by rw [cd2]; congr 1))
            have HY0 := hid (show ((2 * (k + 4) : Nat) : Int) + (i : Int) = Rm.el k f 2 i by rw [Rm.el_pos (by omega) (by omega)])
            rw [HY0.out] at C
            obtain ⟨y, HY⟩ : ∃ y, Hid (y = Rm.el k f 2 i) := ⟨_, rfl⟩
            rw [← HY.out] at C
            clear hneg hbd
            go_wp2_with (refine C.out.mono ?_; rintro e w' ⟨rfl, rfl⟩)
            go_roundw
            case rel => have h := HFin.out y HY.out; exact ⟨m + 1, by omega, by go_num, h.1, h.2⟩
            case measure => simp [intOf]; omega
        · obtain rfl : m = 32 * R := by omega
          go_wp2
          go_roundw
          case rel => exact ⟨2 + 1, by omega, by go_num, by rw [Rm.stL_next (by omega)]; exact hown2, HF1.out.trans hfr2⟩
          case measure => simp [intOf]
    · go_wp2
      go_ret
      have hB := HBW.out.trans (HF0.out.below HBW.out.size (fun b hb h => by omega))
      exact ⟨⟨_, rfl, by rw [← Rm.stL_end]; exact HO0.out⟩, hB⟩
end Go.Proofs.Ytpnmfnjpbhjddaa
/- userplane/ratematch: buffer, start, Buffer, Start; slices.Clone. -/
namespace Go.Proofs.Ytpnmfnjpbhjddaa
open Go.RowKit Go.Shelf
set_option linter.unusedVariables false
/-- A word's box. -/
def Boxed (b : Nat) (k f R n : Nat) (W : World) : Prop := W.cell? ⟨b, 0, none⟩ = some (.int .i64 k) ∧ W.cell? ⟨b, 1, none⟩ = some (.int .i64 f) ∧ W.cell? ⟨b, 2, none⟩ = some (.int .i64 R) ∧ W.cell? ⟨b, 3, none⟩ = some (.int .i64 n)
theorem Boxed.below {b k f R n B : Nat} {W W' : World} (h : Boxed b k f R n W) (hB : Below B W W') (hb : b < B) : Boxed b k f R n W' :=
  ⟨(hB.cell (p := ⟨b, 0, none⟩) hb).trans h.1, (hB.cell (p := ⟨b, 1, none⟩) hb).trans h.2.1, (hB.cell (p := ⟨b, 2, none⟩) hb).trans h.2.2.1, (hB.cell (p := ⟨b, 3, none⟩) hb).trans h.2.2.2⟩
set_option maxHeartbeats 1000000 in
theorem buffer_any (k f R n : Nat) (hk1 : 40 ≤ k) (hk2 : k ≤ 6144) (hf : f < k) (hR1 : k + 4 ≤ 32 * R) (hR2 : 32 * R < k + 4 + 32) (hn : n ≤ 96 * R) (w : World) :
    Calls Try.prog 42 #[wordV k f R n] w fun e w' => (∃ v', e = .returned v' ∧ Vw w' v' ((Rm.buf k f R n).map (Value.int .i64))) ∧ Below w.heap.size w w' := by
  have C := hid (fun w => full_any k f R n hk1 hk2 hf hR1 hR2 w)
  have hR : R ≤ 200 := by omega
  have hR0 : 2 ≤ R := by omega
  unfold wordV at *
  have hS0 : (w.alloc (.cells #[.int .i64 k, .int .i64 f, .int .i64 R, .int .i64 n] 70)).cell? ⟨w.heap.size, 0, none⟩ = some (.int .i64 k) ∧ (w.alloc (.cells #[.int .i64 k, .int .i64 f, .int .i64 R, .int .i64 n] 70)).cell? ⟨w.heap.size, 1, none⟩ = some (.int .i64 f) ∧ (w.alloc (.cells #[.int .i64 k, .int .i64 f, .int .i64 R, .int .i64 n] 70)).cell? ⟨w.heap.size, 2, none⟩ = some (.int .i64 R) ∧ (w.alloc (.cells #[.int .i64 k, .int .i64 f, .int .i64 R, .int .i64 n] 70)).cell? ⟨w.heap.size, 3, none⟩ = some (.int .i64 n) :=
    ⟨by go_simp, by go_simp, by go_simp, by go_simp⟩
  have hS1 : Below w.heap.size w (w.alloc (.cells #[.int .i64 k, .int .i64 f, .int .i64 R, .int .i64 n] 70)) := below_alloc _ _
  have hS2 : w.heap.size < (w.alloc (.cells #[.int .i64 k, .int .i64 f, .int .i64 R, .int .i64 n] 70)).heap.size := by simp
  go_enter Try.func42, Try.ntmps42
  go_wp2_with fail
  generalize w.alloc _ = W at hS0 hS1 hS2 ⊢
  have hSd : Below w.heap.size w W.drew := hS1.trans ((Fr.drew (fun _ => False) W).below hS1.size (fun _ _ h => h))
  have hn0 : (0 : Int) ≤ (n : Int) := by omega
  go_region_held3 (fun w' => w'.cell? ⟨w.heap.size, 0, none⟩ = some (.int .i64 k) ∧ w'.cell? ⟨w.heap.size, 1, none⟩ = some (.int .i64 f) ∧ w'.cell? ⟨w.heap.size, 2, none⟩ = some (.int .i64 R) ∧ w'.cell? ⟨w.heap.size, 3, none⟩ = some (.int .i64 n))
    (first
      | exact hS0
      | assumption
      | exact Boxed.below (B := W.drew.heap.size) (W := W.drew) hS0 hB1 hS2)
    (first
      | (go_at_call 52; refine (C.out _).mono ?_; rintro e w1 ⟨⟨v, rfl, hown⟩, hB1⟩; obtain ⟨g, cap, rfl⟩ := hown.shape (96 * R) (by simp [Rm.fullL_len]) (by omega); have hcap := hown.cap; have hcapI : (n : Int) ≤ (cap : Int) := by omega))
  go_wp2
  go_ret
  have := hown.vw.take n cap (by simp [Rm.fullL_len]; omega)
  rw [← List.map_take] at this
  exact ⟨⟨_, rfl, this⟩, hSd.trans (hB1.mono hSd.size)⟩
namespace Rm
/-- The start of a redundancy version. -/
def start (R n rv : Nat) : Nat := (R * (2 * ((n + 8 * R - 1) / (8 * R)) * rv + 2)) % n
end Rm
theorem clone_any (w : World) (v : Value) (A : List Int) (hv : Vw w v (A.map (Value.int .i64))) (hl : A.length ≤ 17592186044415) :
    Calls Try.prog 38 #[v] w fun e w' => (∃ v', e = .returned v' ∧ OwnL w' w.heap.size 3 v' (A.map (Value.int .i64))) ∧ Below w.heap.size w w' := by
  have HV := hid hv
  obtain ⟨a, c, rfl, hc⟩ := hv
  cases a with
  | none =>
    have h0 : A = [] := by
      cases A with
      | nil => rfl
      | cons x l => obtain ⟨b, off, h, _⟩ := hc 0 (by simp); cases h
    subst h0
    clear hc
    have hnil := fun w : World => Lib.run_eql_slice_nil (P := Try.prog) w 22 3 none 0 c 0 0 Try.underlying22
    simp only [Option.isNone_none] at hnil
    go_enter Try.func38, Try.ntmps38
    go_wp2
    go_ret
    exact ⟨⟨_, rfl, OwnL.nil _ _ _⟩, Below.refl _ _⟩
  | some a =>
    rw [List.length_map] at HV ⊢
    clear hc
    have hnil := fun w : World => Lib.run_eql_slice_nil (P := Try.prog) w 22 3 (some a) A.length c 0 0 Try.underlying22
    simp only [Option.isNone_some] at hnil
    go_enter Try.func38, Try.ntmps38
    go_wp2_with (at_builtin; refine wpList_copy_list rfl elem_int (.tmp 5) (.tmp 6) rfl rfl _ (A.map (Value.int .i64)) rfl HV.out (one_ints _ _) (by simp; omega) (by simp; omega) ?_; intro v' w1 O1 B1)
    go_ret
    exact ⟨⟨_, rfl, O1⟩, B1⟩

theorem tdiv_nat (a b : Nat) : (a : Int).tdiv (b : Int) = ((a / b : Nat) : Int) := by rw [Int.tdiv_eq_ediv_of_nonneg (by omega)]; rfl
theorem tmod_nat (a b : Nat) : (a : Int).tmod (b : Int) = ((a % b : Nat) : Int) := by rw [Int.tmod_eq_emod_of_nonneg (by omega)]; rfl
set_option maxHeartbeats 1000000 in
theorem start_any (k f R n rv : Nat) (hR0 : 2 ≤ R) (hR : R ≤ 200) (hn0 : 1 ≤ n) (hn : n ≤ 96 * R) (hrv : rv ≤ 3) (w : World) :
    Calls Try.prog 46 #[wordV k f R n, .int .i64 rv] w fun e w' => e = .returned (.int .i64 (Rm.start R n rv)) ∧ Below w.heap.size w w' := by
  obtain ⟨m8, hm8⟩ : ∃ m, m = 8 * R := ⟨_, rfl⟩
  obtain ⟨s, hs⟩ : ∃ s, s = n + m8 := ⟨_, rfl⟩
  obtain ⟨s1, hs1⟩ : ∃ s1, s1 + 1 = s := ⟨s - 1, by omega⟩
  obtain ⟨q, hq⟩ : ∃ q, q = s1 / m8 := ⟨_, rfl⟩
  have hqb : q ≤ 12 := by
    rw [hq]
    have : s1 / m8 < 13 := Nat.div_lt_of_lt_mul (by omega)
    omega
  obtain ⟨q2, hq2⟩ : ∃ m, m = 2 * q := ⟨_, rfl⟩
  obtain ⟨p, hp⟩ : ∃ p, p = q2 * rv := ⟨_, rfl⟩
  have hpb : p ≤ 24 * 3 := by rw [hp]; exact Nat.mul_le_mul (by omega) hrv
  obtain ⟨t, ht⟩ : ∃ t, t = p + 2 := ⟨_, rfl⟩
  obtain ⟨M, hM⟩ : ∃ M, M = R * t := ⟨_, rfl⟩
  have hMb : M ≤ 200 * 74 := by rw [hM]; exact Nat.mul_le_mul hR (by omega)
  obtain ⟨r, hr⟩ : ∃ r, r = M % n := ⟨_, rfl⟩
  have HRes := hid (show Rm.start R n rv = r by
    unfold Rm.start
    rw [hr, hM, ht, hp, hq2, hq, show s1 = n + 8 * R - 1 by omega, hm8])
  have e1 : IntKind.i64.wrap (8 * (R : Int)) = (m8 : Int) := by rw [IntWalk.i64_in _ (by omega)]; omega
  have e1' : 8 * (R : Int) = (m8 : Int) := by omega
  have e2 : IntKind.i64.wrap ((n : Int) + (m8 : Int)) = (s : Int) := by rw [IntWalk.i64_in _ (by omega)]; omega
  have e3 : IntKind.i64.wrap ((s : Int) - 1) = (s1 : Int) := by rw [IntWalk.i64_in _ (by omega)]; omega
  have e4 : (s1 : Int).tdiv (m8 : Int) = (q : Int) := by rw [tdiv_nat, hq]
  have e5 : IntKind.i64.wrap (q : Int) = (q : Int) := IntWalk.i64_in _ (by omega)
  have e6 : IntKind.i64.wrap (2 * (q : Int)) = (q2 : Int) := by rw [IntWalk.i64_in _ (by omega)]; omega
  have e7 : IntKind.i64.wrap ((q2 : Int) * (rv : Int)) = (p : Int) := by rw [show (q2 : Int) * (rv : Int) = (p : Int) by rw [hp]; exact (Int.natCast_mul _ _).symm]; exact IntWalk.i64_in _ (by omega)
  have e8 : IntKind.i64.wrap ((p : Int) + 2) = (t : Int) := by rw [IntWalk.i64_in _ (by omega)]; omega
  have e9 : IntKind.i64.wrap ((R : Int) * (t : Int)) = (M : Int) := by rw [show (R : Int) * (t : Int) = (M : Int) by rw [hM]; exact (Int.natCast_mul _ _).symm]; exact IntWalk.i64_in _ (by omega)
  have e10 : (M : Int).tmod (n : Int) = (r : Int) := by rw [tmod_nat, hr]
  have n1 : ¬ (m8 : Int) = 0 := by omega
  have n2 : ¬ (n : Int) = 0 := by omega
  have n3 : ¬ m8 = 0 := by omega
  have n4 : ¬ n = 0 := by omega
  clear hm8 hs hs1 hq hq2 hp ht hM hr hpb hMb hqb
  unfold wordV
  go_enter Try.func46, Try.ntmps46
  go_wp2
  obtain ⟨W, hW⟩ : ∃ W : World, W = w.alloc (.cells #[.int .i64 k, .int .i64 f, .int .i64 R, .int .i64 n] 70) := ⟨_, rfl⟩
  go_quiet (fail)
  go_wp2
  go_ret
  exact ⟨ret_int (by rw [HRes.out]), (below_alloc w _).trans ((Fr.drewN (fun _ => False) _ _).below (by simp) (fun _ _ h => h))⟩
end Go.Proofs.Ytpnmfnjpbhjddaa
/- userplane/ratematch: usable; slices.DeleteFunc at usable. -/
namespace Go.Proofs.Ytpnmfnjpbhjddaa
open Go.RowKit Go.Shelf
set_option linter.unusedVariables false
namespace Rm
def us (x : Int) : Bool := decide (0 ≤ x)
/-- The number of usable elements among the first n. -/
def cnt (L : List Int) : Nat → Nat
  | 0 => 0
  | n + 1 => cnt L n + (if us (L.getD n 0) = true then 1 else 0)
theorem cnt_le (L : List Int) : ∀ n, cnt L n ≤ n
  | 0 => Nat.le_refl _
  | n + 1 => by have := cnt_le L n; unfold cnt; split <;> omega
theorem cnt_all {L : List Int} : ∀ {n : Nat}, (∀ j, j < n → us (L.getD j 0) = true) → cnt L n = n
  | 0, _ => rfl
  | n + 1, h => by
    have := cnt_all (n := n) fun j hj => h j (by omega)
    unfold cnt; rw [this, if_pos (h n (by omega))]
end Rm
theorem usable_any (x : Int) (w : World) : Calls Try.prog 22 #[.int .i64 x] w fun e w' => e = .returned (.bool (Rm.us x)) ∧ w = w' := by
  go_enter Try.func22, Try.ntmps22
  go_wp2
  go_ret
  exact ⟨rfl, rfl⟩
theorem unusable_any (x : Int) (w : World) : Calls Try.prog 21 #[.int .i64 x] w fun e w' => e = .returned (.bool (!Rm.us x)) ∧ w = w' := by
  have C := hid (usable_any x w)
  generalize Rm.us x = b at *
  go_enter Try.func21, Try.ntmps21
  go_wp2_with (go_at_call 22; refine C.out.mono ?_; rintro e w' ⟨rfl, rfl⟩)
  go_ret
  exact ⟨rfl, rfl⟩
set_option maxHeartbeats 1000000 in
/-- The first element that is not usable. -/
theorem uindex_any (w : World) (v : Value) (A : List Int) (hv : Vw w v (A.map (Value.int .i64))) (hl : A.length ≤ 9223372036854775807) :
    Calls Try.prog 43 #[v, .func (.func 21) #[] #[]] w fun e w' => (∃ n : Int, e = .returned (.int .i64 n) ∧ Hid ((n = -1 ∧ ∀ j, j < A.length → Rm.us (A.getD j 0) = true) ∨ (∃ k : Nat, n = k ∧ k < A.length ∧ Rm.us (A.getD k 0) = false ∧ ∀ j, j < k → Rm.us (A.getD j 0) = true))) ∧ w = w' := by
  rcases vw_split hv with ⟨a, c, rfl, rfl⟩ | ⟨b, off, c, rfl, hp0, hc⟩
  · clear hv
    go_enter Try.func43, Try.ntmps43
    go_wp2
    refine wp_loop_rounds 1 ?_
    rw [rounds_succ]
    go_wp2
    go_ret
    exact ⟨⟨-1, rfl, .inl ⟨rfl, by simp⟩⟩, rfl⟩
  · have HC := hid hc
    clear hc hv
    go_enter Try.func43, Try.ntmps43
    go_wp2
    go_loop [8] (fun i => ∃ k : Nat, k ≤ A.length ∧ i = .int .i64 k ∧ Hid (∀ j, j < k → Rm.us (A.getD j 0) = true)) (fun i => A.length - (intOf i).toNat)
    case atStart => exact ⟨0, Nat.zero_le _, rfl, fun j hj => absurd hj (Nat.not_lt_zero _)⟩
    case round =>
      obtain ⟨k, hk, rfl, hno⟩ := hrel
      by_cases hlt : k < A.length
      · have hck := HC.out k hlt
        have C := hid (unusable_any (A.getD k 0))
        obtain ⟨x, hx⟩ : ∃ x, x = A.getD k 0 := ⟨_, rfl⟩
        rw [← hx] at hck C
        have HX := hid hx
        clear hx
        cases hpk : Rm.us x with
        | false =>
          rw [hpk] at C
          have HK := hid hpk
          clear hpk
          go_wp2_with (refine (C.out _).mono ?_; rintro e w' ⟨rfl, rfl⟩)
          go_ret
          exact ⟨⟨k, rfl, .inr ⟨k, rfl, hlt, by rw [← HX.out]; exact HK.out, hno.out⟩⟩, rfl⟩
        | true =>
          rw [hpk] at C
          have HK := hid hpk
          clear hpk
          go_wp2_with (refine (C.out _).mono ?_; rintro e w' ⟨rfl, rfl⟩)
          go_round
          case rel =>
            refine ⟨k + 1, by omega, by go_num, fun j hj => ?_⟩
            by_cases hjk : j = k
            · subst hjk; rw [← HX.out]; exact HK.out
            · exact hno.out j (by omega)
          case measure => simp [intOf]; omega
      · obtain rfl : k = A.length := by omega
        go_wp2
        go_ret
        exact ⟨⟨-1, rfl, .inl ⟨rfl, hno.out⟩⟩, rfl⟩
theorem Fr.setCells {S : Nat → Prop} (g : Nat) (hS : S g) : ∀ (l : List Value) (o : Nat) (w : World), Fr S w (w.setCells g o l)
  | [], o, w => Fr.refl _ _
  | v :: l, o, w => (Fr.setCell w ⟨g, o, none⟩ v hS).trans (Fr.setCells g hS l (o + 1) _)
theorem zero_int : ∀ w : World, (zeroValue 3).run Try.prog w = .ok (.int .i64 0) w := fun _ => by kernel_rfl
set_option maxHeartbeats 2000000 in
theorem udel_any (w : World) (base g n cap : Nat) (A : List Int) (hown : OwnL w base 3 (.slice (some ⟨g, 0, none⟩) n cap) (A.map (Value.int .i64))) (hA : A.length = n) (hl : n ≤ 100000) :
    Calls Try.prog 20 #[.slice (some ⟨g, 0, none⟩) n cap, .func (.func 21) #[] #[]] w fun e w' => (∃ a c, e = .returned (.slice a (Rm.cnt A n) c)) ∧ Fr (fun b => b = g) w w' := by
  have HI := hid (uindex_any w _ A hown.vw (by omega))
  have hcap := hown.cap
  have HA := hid hA
  have HO := hid hown
  clear hown hA
  have HC0 := hid (show ∀ w : World, Calls Try.prog 43 #[.slice (some ⟨g, 0, none⟩) n cap, .func (.func 21) #[] #[]] w = Calls Try.prog 43 #[.slice (some ⟨g, 0, none⟩) n cap, .func (.func 21) #[] #[]] w from fun _ => rfl)
  clear HC0
  go_enter Try.func20, Try.ntmps20
  go_wp2_with fail
  refine HI.out.mono ?_
  rintro e w' ⟨⟨i, rfl, hi⟩, rfl⟩
  rcases hi.out with ⟨hm, hall⟩ | ⟨k, hk, hkn, hku, hkb⟩
  · subst hm
    have HR := hid (show Rm.cnt A n = n from Rm.cnt_all (fun j hj => hall j (by rw [HA.out]; exact hj)))
    clear hi hall
    go_wp2
    go_ret
    rw [HR.out]
    exact ⟨⟨some ⟨g, 0, none⟩, cap, rfl⟩, Fr.refl _ _⟩
  · subst hk
    have hkn' : k < n := by have := HA.out; omega
    have HK := hid (show Rm.cnt A (k + 1) = k by rw [Rm.cnt, Rm.cnt_all hkb, hku]; simp)
    have hk1 : ((k : Int) == -1) = false := by rw [beq_eq_false_iff_ne]; omega
    clear hi hku hkb hkn
    go_wp2
    go_loopw [5, 6] (fun i j wr => ∃ (p q : Nat) (L : List Int), q ≤ n ∧ p < q ∧ i = .int .i64 p ∧ j = .int .i64 q ∧ Hid (Rm.cnt A q = p) ∧ Hid (L.length = n) ∧ OwnL wr base 3 (.slice (some ⟨g, 0, none⟩) n cap) (L.map (Value.int .i64)) ∧ Hid (∀ t, q ≤ t → t < n → L.getD t 0 = A.getD t 0) ∧ Fr (fun b => b = g) w wr) (fun _ j _ => n - (intOf j).toNat)
    case atStart => exact ⟨k, k + 1, A, by omega, by omega, rfl, by go_num, HK.out, HA.out, HO.out, fun t _ _ => rfl, Fr.refl _ _⟩
    case round =>
      obtain ⟨p, q, L, hq, hpq, rfl, rfl, hc, hL, hown, hkeep, hfr⟩ := hrel
      by_cases hlt : q < n
      · have hcell := hown.at q (by rw [List.length_map, hL.out]; exact hlt)
        have hLq : L.getD q 0 = A.getD q 0 := hkeep.out q (Nat.le_refl _) hlt
        have hqL : q < L.length := by rw [hL.out]; exact hlt
        rw [List.getElem_map, show L[q] = A.getD q 0 by rw [← hLq]; simp [List.getD, hqL]] at hcell
        have C := hid (unusable_any (A.getD q 0))
        have HCs := hid (show Rm.cnt A (q + 1) = Rm.cnt A q + (if Rm.us (A.getD q 0) = true then 1 else 0) from rfl)
        generalize A.getD q 0 = x at *
        have hfz := hown.free p
        obtain ⟨u, hu⟩ : ∃ u : Value, wr.cell? ⟨g, p, none⟩ = some u := ⟨_, hown.at p (by rw [List.length_map, hL.out]; omega)⟩
        have HO2 := hid hown
        have HF2 := hid hfr
        clear hown hfr hLq hqL
        cases hux : Rm.us x with
        | true =>
          rw [hux] at C
          have HC2 := hid (show Rm.cnt A (q + 1) = p + 1 by rw [HCs.out, hux, hc.out]; rfl)
          clear hux
          go_wp2_with (refine (C.out _).mono ?_; rintro e w' ⟨rfl, rfl⟩)
          go_roundw
          case rel =>
            refine ⟨p + 1, q + 1, L.set p x, by omega, by omega, by go_num, by go_num, HC2.out, by simp [Hid, hL.out], ?_, ?_, HF2.out.trans (Fr.setCell _ _ _ rfl)⟩
            · have := HO2.out.stored p (.int .i64 x)
              rwa [← List.map_set] at this
            · intro t h1 h2
              have := hkeep.out t (by omega) h2
              rw [← this]
              have hpt : ¬ p = t := by omega
              simp [List.getD, List.getElem?_set, hpt]
          case measure => simp [intOf]; omega
        | false =>
          rw [hux] at C
          have HC2 := hid (show Rm.cnt A (q + 1) = p by rw [HCs.out, hux, hc.out]; rfl)
          clear hux
          go_wp2_with (refine (C.out _).mono ?_; rintro e w' ⟨rfl, rfl⟩)
          go_roundw
          case rel => exact ⟨p, q + 1, L, by omega, by omega, rfl, by go_num, HC2.out, hL.out, HO2.out, fun t h1 h2 => hkeep.out t (by omega) h2, HF2.out⟩
          case measure => simp [intOf]; omega
      · obtain rfl : q = n := by omega
        have hcl : ∀ ty, (Builtin.clear_ #[22] ty #[.slice (some ⟨g, p, none⟩) (q - p) (cap - p)]).run Try.prog wr = .ok (.tuple #[]) (wr.setCells g p (List.replicate (q - p) (.int .i64 0))) :=
          fun ty => Lib.run_clear_slice wr _ _ ty _ Try.underlying22 zero_int rfl rfl g p _ _ (by omega) (fun t ht => by rw [hown.at (p + t) (by rw [List.length_map, hL.out]; omega)]; rfl) (fun t ht => hown.free (p + t))
        have HF2 := hid (hfr.trans (Fr.setCells (S := fun b => b = g) g rfl (List.replicate (q - p) (.int .i64 0)) p wr))
        have hb1 : (p : Int) ≤ (q : Int) := by omega
        have hb2 : (p : Int) ≤ (cap : Int) := by omega
        clear hown hfr
        go_wp2
        go_ret
        rw [hc.out]
        exact ⟨⟨some ⟨g, 0, none⟩, cap, rfl⟩, HF2.out⟩
end Go.Proofs.Ytpnmfnjpbhjddaa
/- userplane/ratematch: Buffer, Usable, Start. -/
namespace Go.Proofs.Ytpnmfnjpbhjddaa
open Go.RowKit Go.Shelf
set_option linter.unusedVariables false
namespace Rm
/-- What Buffer returns. -/
def bufR (k f limit : Int) : List Int × Int := if valid k f limit = true then (buf k.toNat f.toNat (rows k.toNat) (size k.toNat limit), 0) else ([], 2)
def usableR (k f limit : Int) : Nat × Int := if valid k f limit = true then (cnt (buf k.toNat f.toNat (rows k.toNat) (size k.toNat limit)) (size k.toNat limit), 0) else (0, 2)
def startR (k limit rv : Int) : Nat × Int := if valid k 0 limit = true ∧ 0 ≤ rv ∧ rv ≤ 3 then (start (rows k.toNat) (size k.toNat limit) rv.toNat, 0) else (0, 2)
theorem rows_bd {k : Nat} (h1 : 40 ≤ k) (h2 : k ≤ 6144) : 2 ≤ rows k ∧ rows k ≤ 193 ∧ k + 4 ≤ 32 * rows k ∧ 32 * rows k < k + 4 + 32 := by unfold rows; omega
theorem size_bd {k : Nat} {limit : Int} (h : 1 ≤ limit) (h1 : 40 ≤ k) : 1 ≤ size k limit ∧ size k limit ≤ 96 * rows k := by
  have : 2 ≤ rows k := by unfold rows; omega
  unfold size; omega
theorem valid_nat {k f : Nat} {limit : Int} (h1 : 40 ≤ k) (h2 : k ≤ 6144) (h3 : f < k) (h4 : 1 ≤ limit) : valid k f limit = true := by
  simp [valid]; omega
end Rm
set_option maxHeartbeats 1000000 in
theorem rmBuffer_any (k f limit : Int) (w : World) :
    Calls Try.prog 19 #[.int .i64 k, .int .i64 f, .int .i64 limit] w fun e w' => (∃ v', e = .returned (.tuple #[v', .int .i64 (Rm.bufR k f limit).2]) ∧ OwnL w' w.heap.size 3 v' ((Rm.bufR k f limit).1.map (Value.int .i64))) ∧ Below w.heap.size w w' := by
  unfold Rm.bufR
  cases hv : Rm.valid k f limit with
  | false =>
    rw [if_neg (by simp)]
    have C := hid (rmOf_err k f limit hv)
    clear hv
    go_enter Try.func19, Try.ntmps19
    go_wp2_with (go_at_call 41; refine (C.out _).mono ?_; rintro e w1 ⟨rfl, B1⟩)
    go_ret2
    exact ⟨⟨_, rfl, OwnL.nil _ _ _⟩, B1.trans ((below_alloc _ _).mono B1.size)⟩
  | true =>
    rw [if_pos rfl]
    obtain ⟨h1, h2, h3, h4, h5⟩ := Rm.valid_of hv
    clear hv
    obtain ⟨k, rfl⟩ := Int.eq_ofNat_of_zero_le (show 0 ≤ k by omega)
    obtain ⟨f, rfl⟩ := Int.eq_ofNat_of_zero_le h3
    rw [Int.toNat_natCast, Int.toNat_natCast]
    have hr := Rm.rows_bd (k := k) (by omega) (by omega)
    have hs := Rm.size_bd (k := k) h5 (by omega)
    have C := hid (rmOf_ok k f limit (by omega) (by omega) (by omega) h5)
    have CB := hid (fun w => buffer_any k f (Rm.rows k) (Rm.size k limit) (by omega) (by omega) (by omega) hr.2.2.1 hr.2.2.2 hs.2 w)
    have HL := hid (show (Rm.buf k f (Rm.rows k) (Rm.size k limit)).length ≤ 20000 by rw [Rm.buf_len hs.2]; omega)
    generalize Rm.buf k f (Rm.rows k) (Rm.size k limit) = L at *
    unfold wordV at CB
    generalize Rm.rows k = R at *
    generalize Rm.size k limit = S at *
    go_enter Try.func19, Try.ntmps19
    go_wp2_with fail
    refine (C.out _).mono ?_
    rintro e w1 ⟨rfl, B1⟩
    go_wp2_with fail
    refine (CB.out _).mono ?_
    rintro e w2 ⟨⟨v2, rfl, V2⟩, B2⟩
    go_wp2_with fail
    refine (clone_any _ _ L V2 (by have := HL.out; omega)).mono ?_
    rintro e w3 ⟨⟨v3, rfl, O3⟩, B3⟩
    have B12 : Below w.heap.size w w2 := below_then B1 (below_then (below_alloc _ _) B2)
    go_wp2
    go_ret2
    exact ⟨⟨_, rfl, O3.base_mono B12.size⟩, below_then B12 B3⟩
set_option maxHeartbeats 1000000 in
theorem rmUsable_any (k f limit : Int) (w : World) :
    Calls Try.prog 8 #[.int .i64 k, .int .i64 f, .int .i64 limit] w fun e w' => e = .returned (.tuple #[.int .i64 (Rm.usableR k f limit).1, .int .i64 (Rm.usableR k f limit).2]) ∧ Below w.heap.size w w' := by
  have C := hid (rmBuffer_any k f limit)
  unfold Rm.usableR
  cases hv : Rm.valid k f limit with
  | false =>
    rw [Rm.bufR, hv, if_neg (by simp)] at C
    rw [if_neg (by simp)]
    clear hv
    have CD := hid (show ∀ w a c, Calls Try.prog 43 #[.slice a 0 c, .func (.func 21) #[] #[]] w fun e w' => e = .returned (.int .i64 (-1)) ∧ w = w' from fun w a c => by
      refine (uindex_any w (.slice a 0 c) [] (Vw.nil _ _ _) (by simp)).mono ?_
      rintro e w' ⟨⟨n, rfl, h⟩, rfl⟩
      rcases h.out with ⟨rfl, _⟩ | ⟨k, _, h, _⟩
      · exact ⟨rfl, rfl⟩
      · simp at h)
    have CE := hid (show ∀ w a c, Calls Try.prog 20 #[.slice a 0 c, .func (.func 21) #[] #[]] w fun e w' => e = .returned (.slice a 0 c) ∧ w = w' from fun w a c => by
      go_enter Try.func20, Try.ntmps20
      go_wp2_with (go_at_call 43; refine (CD.out _ _ _).mono ?_; rintro e w' ⟨rfl, rfl⟩)
      go_ret
      exact ⟨rfl, rfl⟩)
    go_enter Try.func8, Try.ntmps8
    go_wp2_with fail
    refine (C.out _).mono ?_
    rintro e w1 ⟨⟨v, rfl, O⟩, B1⟩
    obtain ⟨a, c, rfl⟩ := O.is_slice
    clear O
    rw [List.map_nil, List.length_nil]
    go_wp2_with (go_at_call 20; refine (CE.out _ _ _).mono ?_; rintro e w' ⟨rfl, rfl⟩)
    go_ret2
    exact ⟨rfl, B1⟩
  | true =>
    rw [Rm.bufR, hv, if_pos rfl] at C
    rw [if_pos rfl]
    obtain ⟨h1, h2, h3, h4, h5⟩ := Rm.valid_of hv
    clear hv
    obtain ⟨k, rfl⟩ := Int.eq_ofNat_of_zero_le (show 0 ≤ k by omega)
    obtain ⟨f, rfl⟩ := Int.eq_ofNat_of_zero_le h3
    rw [Int.toNat_natCast, Int.toNat_natCast] at *
    have hr := Rm.rows_bd (k := k) (by omega) (by omega)
    have hs := Rm.size_bd (k := k) h5 (by omega)
    have HL := hid (Rm.buf_len (k := k) (f := f) hs.2)
    have hsz : Rm.size k limit ≤ 20000 := by omega
    have hs0 := hs.1
    generalize Rm.size k limit = S at *
    generalize Rm.buf k f (Rm.rows k) S = L at *
    clear hr hs
    go_enter Try.func8, Try.ntmps8
    go_wp2_with fail
    refine (C.out _).mono ?_
    rintro e w1 ⟨⟨v, rfl, O⟩, B1⟩
    obtain ⟨g, cap, rfl⟩ := O.shape S (by rw [List.length_map, HL.out]) (by omega)
    have HO := hid O
    clear O
    go_wp2_with fail
    refine (udel_any w1 _ g S cap L HO.out HL.out (by omega)).mono ?_
    rintro e w2 ⟨⟨a, c, rfl⟩, F2⟩
    go_wp2
    go_ret2
    have hg := (HO.out.block (g := g) rfl).1
    exact ⟨rfl, B1.trans (F2.below B1.size (fun b hb e => by omega))⟩
end Go.Proofs.Ytpnmfnjpbhjddaa
/- userplane/ratematch: around, its iterator. -/
namespace Go.Proofs.Ytpnmfnjpbhjddaa
open Go.RowKit Go.Shelf
set_option linter.unusedVariables false
attribute [local go_sem] Oper.semAt_some
theorem around_any (a : Option Addr) (n c : Nat) (i : Int) (w : World) :
    Calls Try.prog 45 #[.slice a n c, .int .i64 i] w fun e w' => e = .returned (.func (.func 53) #[] #[.pointer (some ⟨w.heap.size + 1, 0, none⟩), .pointer (some ⟨w.heap.size, 0, none⟩)]) ∧ w' = (w.alloc (.cells #[.slice a n c] 22)).alloc (.cells #[.int .i64 i] 3) := by
  go_enter Try.func45, Try.ntmps45
  go_wp2
  go_ret
  exact ⟨rfl, rfl⟩
namespace Rm
/-- The element that round n comes to. -/
def at_ (L : List Int) (i n : Nat) : Int := L.getD ((i + n) % L.length) 0
end Rm
set_option maxHeartbeats 2000000 in
theorem around1_iter (L : List Int) (i0 bf bb gb off cap : Nat) (hL0 : 0 < L.length) (hL : L.length ≤ 100000) (hi : i0 < L.length) (T : Nat → Prop) (hTf : T bf) (hTb : T bb) (hTg : T gb) (w : World)
    (hcf : w.cell? ⟨bf, 0, none⟩ = some (.int .i64 i0)) (hcb : w.cell? ⟨bb, 0, none⟩ = some (.slice (some ⟨gb, off, none⟩) L.length cap)) (hcell : ∀ j, j < L.length → w.cell? ⟨gb, off + j, none⟩ = some (.int .i64 (L.getD j 0))) (hT : ∀ b, T b → b < w.heap.size) :
    IterC Try.prog 53 #[.pointer (some ⟨bf, 0, none⟩), .pointer (some ⟨bb, 0, none⟩)] (fun k => #[.int .i64 (Rm.at_ L i0 k)]) none 0 T w := by
  intro l J Jx W hW hJ hJx hY h0 hN
  obtain ⟨N, hNb, hN'⟩ := hN rfl
  clear hN
  have hWs := hW.size
  have hcf' := (hW.cell (p := ⟨bf, 0, none⟩) (hT bf hTf)).trans hcf
  have hcb' := (hW.cell (p := ⟨bb, 0, none⟩) (hT bb hTb)).trans hcb
  have hcell' : ∀ j, j < L.length → W.cell? ⟨gb, off + j, none⟩ = some (.int .i64 (L.getD j 0)) := fun j hj => (hW.cell (p := ⟨gb, off + j, none⟩) (hT gb hTg)).trans (hcell j hj)
  have HCell := hid hcell'
  have HY := hid hY
  have HJ := hid hJ
  have HJx := hid hJx
  have HN := hid hN'
  have Hi := hid hi
  clear hY hJ hcf hcb hcell hcell' hJx hN' hi
  refine calls_of_wp Try.func53 rfl ?_
  simp only [Try.ntmps53, List.size_toArray, List.length_cons, List.length_nil, Nat.reduceAdd, Nat.reduceSub, Array.replicate_succ, Array.replicate_zero, List.push_toArray, List.append_toArray, List.nil_append, List.cons_append]
  go_wp2
  refine (wpIn_wide (n := 1)).1 ?_
  gi_loopg [4] N (fun g v wr => ∃ n p : Nat, n + g = N ∧ p < L.length ∧ v = .int .i64 p ∧ Hid (p = (i0 + n) % L.length) ∧ J n wr ∧ KeepT T W wr)
  case atStart => exact ⟨0, i0, by omega, Hi.out, rfl, by rw [Hid, Nat.add_zero, Nat.mod_eq_of_lt Hi.out], h0, KeepT.refl _ _⟩
  case round =>
    clear h0
    obtain ⟨n, p, hng, hp, rfl, hpe, hJn, hK⟩ := hrel
    have hf := hK.cell hcf' hTf
    have hb := hK.cell hcb' hTb
    have hc := hK.cell (HCell.out p hp) hTg
    have hgk : 0 < gk := by
      rcases Nat.eq_zero_or_pos gk with h | h
      · subst h
        exact absurd (by rw [Nat.add_zero] at hng; rw [← hng]; exact hJn : J N wr) (HN.out wr)
      · exact h
    have hY := HY.out n wr (fun n hn => by cases hn) hJn
    have hxs : Rm.at_ L i0 n = L.getD p 0 := by rw [Rm.at_, hpe.out]
    rw [hxs] at hY
    obtain ⟨x, hx⟩ : ∃ x, x = L.getD p 0 := ⟨_, rfl⟩
    rw [← hx] at hc hY
    have HNG := hid hng
    clear hxs hx hJn hng
    obtain ⟨fn, tmps, assign, body, hy, hR⟩ := hY
    have hpb : p ≤ 100000 := by omega
    have hlb : (L.length : Int) ≤ 100000 := by omega
    have hln : ¬ (L.length : Int) = 0 := by omega
    have hln2 : ¬ L.length = 0 := by omega
    gi_wp2
    refine hR.mono ?_
    rintro e W3 (⟨rfl, hJ3, hk3⟩ | ⟨rfl, hJx3⟩)
    · have hK3 := hK.trans (hk3.mono (fun b hb => .inl hb))
      have hf3 := hK3.cell hcf' hTf
      have hb3 := hK3.cell hcb' hTb
      clear hf hb hc hk3 hK
      gi_wp2
      gi_roundg (gk - 1)
      case measure => omega
      case rel =>
        refine ⟨n + 1, (p + 1) % L.length, by have := HNG.out; omega, Nat.mod_lt _ hL0, ?_, ?_, hJ3, hK3⟩
        · push_cast; rfl
        · rw [Hid, hpe.out, ← Nat.add_assoc, Nat.mod_add_mod]
    · gi_wp2
      go_end0
      exact ⟨⟨_, rfl⟩, .inr ⟨_, hJx3⟩⟩
end Go.Proofs.Ytpnmfnjpbhjddaa
/- The selection of a redundancy version, as lists; no program. -/
namespace Go.Proofs.Ytpnmfnjpbhjddaa
namespace Rm
/-- The usable elements among the first n that a round from i on comes to. -/
def selL (L : List Int) (i : Nat) : Nat → List Int
  | 0 => []
  | n + 1 => selL L i n ++ (if us (at_ L i n) = true then [at_ L i n] else [])
theorem selL_yes {L : List Int} {i n : Nat} (h : us (at_ L i n) = true) : selL L i (n + 1) = selL L i n ++ [at_ L i n] := by rw [selL, if_pos h]
theorem selL_no {L : List Int} {i n : Nat} (h : us (at_ L i n) = false) : selL L i (n + 1) = selL L i n := by rw [selL, if_neg (by simp [h]), List.append_nil]
theorem selL_pre (L : List Int) (i : Nat) : ∀ (n m : Nat), ∃ r, selL L i (n + m) = selL L i n ++ r
  | n, 0 => ⟨[], by simp⟩
  | n, m + 1 => by
    obtain ⟨r, hr⟩ := selL_pre L i n m
    exact ⟨r ++ (if us (at_ L i (n + m)) = true then [at_ L i (n + m)] else []), by rw [← Nat.add_assoc, selL, hr, List.append_assoc]⟩
theorem selL_mono (L : List Int) (i : Nat) {n m : Nat} (h : n ≤ m) : (selL L i n).length ≤ (selL L i m).length := by
  obtain ⟨r, hr⟩ := selL_pre L i n (m - n)
  rw [show n + (m - n) = m by omega] at hr
  rw [hr, List.length_append]; omega
/-- In each round of the whole buffer one element at least is usable. -/
theorem selL_round {L : List Int} {i : Nat} (hu : ∃ j, j < L.length ∧ us (L.getD j 0) = true) (n : Nat) : (selL L i n).length + 1 ≤ (selL L i (n + L.length)).length := by
  obtain ⟨j, hj, hu⟩ := hu
  have hpos : 0 < L.length := by omega
  -- the step at which j is met
  obtain ⟨t, ht, hm⟩ : ∃ t, t < L.length ∧ (i + (n + t)) % L.length = j := by
    have hlt := Nat.mod_lt (i + n) hpos
    by_cases h : (i + n) % L.length ≤ j
    · refine ⟨j - (i + n) % L.length, by omega, ?_⟩
      rw [← Nat.add_assoc, Nat.add_mod, Nat.mod_eq_of_lt (show j - (i + n) % L.length < L.length by omega), show (i + n) % L.length + (j - (i + n) % L.length) = j by omega, Nat.mod_eq_of_lt hj]
    · refine ⟨j + L.length - (i + n) % L.length, by omega, ?_⟩
      rw [← Nat.add_assoc, Nat.add_mod, Nat.mod_eq_of_lt (show j + L.length - (i + n) % L.length < L.length by omega), show (i + n) % L.length + (j + L.length - (i + n) % L.length) = j + L.length by omega, Nat.add_mod_right, Nat.mod_eq_of_lt hj]
  have h1 : us (at_ L i (n + t)) = true := by rw [at_, hm]; exact hu
  have h2 := selL_yes h1
  have h3 := selL_mono L i (show n ≤ n + t by omega)
  have h4 := selL_mono L i (show n + t + 1 ≤ n + L.length by omega)
  rw [h2, List.length_append, List.length_singleton] at h4
  omega
theorem selL_many {L : List Int} {i : Nat} (hu : ∃ j, j < L.length ∧ us (L.getD j 0) = true) : ∀ e, e ≤ (selL L i (e * L.length)).length
  | 0 => Nat.zero_le _
  | e + 1 => by
    have h1 := selL_many (i := i) hu e
    have h2 := selL_round (i := i) hu (e * L.length)
    rw [Nat.add_mul, Nat.one_mul]; omega
/-- The first e usable elements. -/
def posL (L : List Int) (i e : Nat) : List Int := (selL L i (e * L.length)).take e
theorem posL_of {L : List Int} {i n e : Nat} (hu : ∃ j, j < L.length ∧ us (L.getD j 0) = true) (h : (selL L i n).length = e) : selL L i n = posL L i e := by
  have hm := selL_many (i := i) hu e
  unfold posL
  rcases Nat.le_total n (e * L.length) with hle | hle
  · obtain ⟨r, hr⟩ := selL_pre L i n (e * L.length - n)
    rw [show n + (e * L.length - n) = e * L.length by omega] at hr
    rw [hr, ← h, List.take_left]
  · obtain ⟨r, hr⟩ := selL_pre L i (e * L.length) (n - e * L.length)
    rw [show e * L.length + (n - e * L.length) = n by omega] at hr
    have hl := congrArg List.length hr
    rw [List.length_append] at hl
    have hr0 : r = [] := List.eq_nil_of_length_eq_zero (by omega)
    rw [hr, hr0, List.append_nil, List.take_of_length_le (by omega)]
theorem posL_len {L : List Int} {i e : Nat} (hu : ∃ j, j < L.length ∧ us (L.getD j 0) = true) : (posL L i e).length = e := by
  have := selL_many (i := i) hu e
  unfold posL; rw [List.length_take]; omega
theorem cnt_zero {L : List Int} : ∀ {n : Nat}, cnt L n = 0 ↔ ∀ j, j < n → us (L.getD j 0) = false
  | 0 => by simp [cnt]
  | n + 1 => by
    have ih := cnt_zero (L := L) (n := n)
    unfold cnt
    constructor
    · intro h j hj
      have h0 : cnt L n = 0 := by omega
      rcases Nat.lt_or_ge j n with h1 | h1
      · exact ih.1 h0 j h1
      · obtain rfl : j = n := by omega
        cases hu : us (L.getD j 0) with
        | false => rfl
        | true => rw [if_pos hu] at h; omega
    · intro h
      rw [ih.2 fun j hj => h j (by omega), h n (by omega)]; simp
theorem cnt_pos {L : List Int} (h : cnt L L.length ≠ 0) : ∃ j, j < L.length ∧ us (L.getD j 0) = true := by
  rcases Classical.em (∃ j, j < L.length ∧ us (L.getD j 0) = true) with h' | h'
  · exact h'
  · refine absurd (cnt_zero.2 fun j hj => ?_) h
    cases hu : us (L.getD j 0) with
    | false => rfl
    | true => exact absurd ⟨j, hj, hu⟩ h'
def anyU (L : List Int) : Bool := (List.range L.length).any fun i => us (L.getD i 0)
theorem anyU_eq (L : List Int) : anyU L = decide (cnt L L.length ≠ 0) := by
  rw [Bool.eq_iff_iff, decide_eq_true_eq, anyU, List.any_eq_true]
  constructor
  · rintro ⟨j, hj, hu⟩ h
    have := cnt_zero.1 h j (List.mem_range.1 hj)
    rw [this] at hu; cases hu
  · intro h
    obtain ⟨j, hj, hu⟩ := cnt_pos h
    exact ⟨j, List.mem_range.2 hj, hu⟩
/-- What Positions returns. -/
def posR (k f limit rv e : Int) : List Int × Int :=
  if valid k f limit = true ∧ 0 ≤ rv ∧ rv ≤ 3 ∧ 0 ≤ e ∧ e ≤ 131072 then
    (if e = 0 then ([], 0) else if cnt (buf k.toNat f.toNat (rows k.toNat) (size k.toNat limit)) (size k.toNat limit) = 0 then ([], 10)
      else (posL (buf k.toNat f.toNat (rows k.toNat) (size k.toNat limit)) (start (rows k.toNat) (size k.toNat limit) rv.toNat) e.toNat, 0))
  else ([], 2)
theorem start_lt {R n rv : Nat} (h : 1 ≤ n) : start R n rv < n := Nat.mod_lt _ (by omega)
end Rm
end Go.Proofs.Ytpnmfnjpbhjddaa
/- Rate matching: how often a position is selected; no program. -/
namespace Go.Proofs.Ytpnmfnjpbhjddaa
open Go.RowKit
namespace Rm
theorem selL_eq (L : List Int) (i : Nat) : ∀ n, selL L i n = ((List.range n).map (at_ L i)).filter us
  | 0 => rfl
  | n + 1 => by
    rw [selL, selL_eq L i n, List.range_succ, List.map_append, List.filter_append]
    congr 1
    by_cases h : us (at_ L i n) = true <;> simp [h]
theorem at_add (L : List Int) (i t : Nat) : at_ L i (L.length + t) = at_ L i t := by
  unfold at_
  rw [show i + (L.length + t) = (i + t) + L.length by omega, Nat.add_mod_right]
theorem selL_add (L : List Int) (i : Nat) : ∀ m, selL L i (L.length + m) = selL L i L.length ++ selL L i m
  | 0 => by simp [selL]
  | m + 1 => by rw [← Nat.add_assoc, selL, selL_add L i m, at_add, selL, List.append_assoc]
theorem turn (L : List Int) {i : Nat} (hi : i < L.length) : (List.range L.length).map (at_ L i) = L.drop i ++ L.take i := by
  apply List.ext_getElem
  · simp; omega
  · intro t h1 h2
    have ht : t < L.length := by simpa using h1
    rw [List.getElem_map, List.getElem_range]
    unfold at_
    rw [List.getElem_append]
    split
    · rename_i h
      rw [List.length_drop] at h
      rw [Nat.mod_eq_of_lt (by omega), List.getElem_drop]
      simp [List.getD, show i + t < L.length by omega]
    · rename_i h
      rw [List.length_drop] at h
      have e : (i + t) % L.length = t - (L.length - i) := by
        rw [show i + t = (t - (L.length - i)) + L.length by omega, Nat.add_mod_right, Nat.mod_eq_of_lt (by omega)]
      rw [List.getElem_take, e]
      simp [List.getD, show t - (L.length - i) < L.length by omega]
theorem turn_perm (L : List Int) {i : Nat} (hi : i < L.length) : (selL L i L.length).Perm (L.filter us) := by
  rw [selL_eq, turn L hi]
  exact (List.perm_append_comm.trans (List.Perm.of_eq (List.take_append_drop i L))).filter us
theorem cnt_eq (L : List Int) : ∀ n, n ≤ L.length → cnt L n = ((L.take n).filter us).length
  | 0, _ => by simp [cnt]
  | n + 1, h => by
    have hn : n < L.length := by omega
    rw [cnt, cnt_eq L n (by omega), List.take_add_one, List.filter_append, List.length_append, List.getElem?_eq_getElem hn]
    congr 1
    have : L.getD n 0 = L[n] := by simp [List.getD, hn]
    rw [this]
    by_cases hu : us L[n] = true <;> simp [hu]
theorem selL_cnt (L : List Int) {i : Nat} (hi : i < L.length) : (selL L i L.length).length = cnt L L.length := by
  rw [(turn_perm L hi).length_eq, cnt_eq L _ (Nat.le_refl _), List.take_length]
theorem selL_rep (L : List Int) (i : Nat) : ∀ q, selL L i (q * L.length) = (List.replicate q (selL L i L.length)).flatten
  | 0 => by simp [selL]
  | q + 1 => by rw [Nat.add_mul, Nat.one_mul, Nat.add_comm, selL_add, selL_rep L i q, List.replicate_succ, List.flatten_cons]
theorem posL_any {L : List Int} {i e M : Nat} (hu : ∃ j, j < L.length ∧ us (L.getD j 0) = true) (h : e ≤ (selL L i M).length) : posL L i e = (selL L i M).take e := by
  have hm := selL_many (i := i) hu e
  unfold posL
  rcases Nat.le_total M (e * L.length) with hle | hle
  · obtain ⟨r, hr⟩ := selL_pre L i M (e * L.length - M)
    rw [show M + (e * L.length - M) = e * L.length by omega] at hr
    rw [hr, List.take_append_of_le_length h]
  · obtain ⟨r, hr⟩ := selL_pre L i (e * L.length) (M - e * L.length)
    rw [show e * L.length + (M - e * L.length) = M by omega] at hr
    rw [hr, List.take_append_of_le_length hm]
/-- A shorter selection is a prefix. -/
theorem posL_take {L : List Int} {i e m : Nat} (hu : ∃ j, j < L.length ∧ us (L.getD j 0) = true) (h : m ≤ e) : posL L i m = (posL L i e).take m := by
  have hm := selL_many (i := i) hu e
  rw [posL_any (M := e * L.length) hu (by omega), posL, List.take_take, Nat.min_eq_left h]
/-- Behind the first round the selection goes on as from the start. -/
theorem posL_turn {L : List Int} {i e : Nat} (hu : ∃ j, j < L.length ∧ us (L.getD j 0) = true) (hi : i < L.length) (h : cnt L L.length ≤ e) : posL L i e = selL L i L.length ++ posL L i (e - cnt L L.length) := by
  have hm := selL_many (i := i) hu e
  have hc := selL_cnt L hi
  rw [posL_any (e := e) (M := L.length + e * L.length) hu (by rw [selL_add, List.length_append]; omega), selL_add, List.take_append, List.take_of_length_le (by omega), hc, posL_any (e := e - cnt L L.length) (M := e * L.length) hu (by omega)]
theorem posL_again {L : List Int} {i e j : Nat} (hu : ∃ j, j < L.length ∧ us (L.getD j 0) = true) (hi : i < L.length) (h : cnt L L.length ≤ j) (hj : j < e) : (posL L i e).getD j 0 = (posL L i e).getD (j - cnt L L.length) 0 := by
  have hc := selL_cnt L hi
  have e1 : (posL L i e).getD j 0 = (posL L i (e - cnt L L.length)).getD (j - cnt L L.length) 0 := by
    rw [posL_turn hu hi (by omega), List.getD, List.getElem?_append_right (by omega), hc, List.getD]
  rw [e1, posL_take (e := e) hu (Nat.sub_le _ _), List.getD, List.getD, List.getElem?_take_of_lt (by omega)]
theorem posL_form {L : List Int} {i e : Nat} (hu : ∃ j, j < L.length ∧ us (L.getD j 0) = true) (hi : i < L.length) : ∃ r, r < cnt L L.length ∧ e = (e / cnt L L.length) * cnt L L.length + r ∧ posL L i e = (List.replicate (e / cnt L L.length) (selL L i L.length)).flatten ++ (selL L i L.length).take r := by
  have hc := selL_cnt L hi
  have h1 := selL_many (i := i) hu 1
  rw [Nat.one_mul, hc] at h1
  refine ⟨e % cnt L L.length, Nat.mod_lt _ (by omega), by have := Nat.div_add_mod e (cnt L L.length); rw [Nat.mul_comm]; omega, ?_⟩
  have hd := Nat.div_add_mod e (cnt L L.length)
  have hlt := Nat.mod_lt e (show 0 < cnt L L.length by omega)
  generalize e / cnt L L.length = q at *
  generalize e % cnt L L.length = r at *
  have hlen : ((List.replicate q (selL L i L.length)).flatten).length = q * cnt L L.length := by
    rw [List.length_flatten, List.map_replicate, hc, List.sum_replicate_nat]
  have hq : selL L i ((q + 1) * L.length) = (List.replicate q (selL L i L.length)).flatten ++ selL L i L.length := by
    rw [selL_rep, List.replicate_succ', List.flatten_append, List.flatten_singleton]
  rw [Nat.mul_comm] at hd
  rw [posL_any (M := (q + 1) * L.length) hu (by rw [hq, List.length_append, hlen, hc]; omega), hq, List.take_append, hlen, List.take_of_length_le (by omega), show e - q * cnt L L.length = r by omega]
theorem count_rep (A : List Int) (v : Int) : ∀ q, (List.replicate q A).flatten.count v = q * A.count v
  | 0 => by simp
  | q + 1 => by rw [List.replicate_succ, List.flatten_cons, List.count_append, count_rep A v q, Nat.add_mul, Nat.one_mul, Nat.add_comm]
/-- Every usable position is selected floor(e / n) or ceil(e / n) times. -/
theorem posL_often {L : List Int} {i e : Nat} (hu : ∃ j, j < L.length ∧ us (L.getD j 0) = true) (hi : i < L.length) (hN : (L.filter us).Nodup) {v : Int} (hv : v ∈ L.filter us) :
    e / cnt L L.length ≤ (posL L i e).count v ∧ (posL L i e).count v ≤ (e + cnt L L.length - 1) / cnt L L.length := by
  obtain ⟨r, hr, he, hf⟩ := posL_form (e := e) hu hi
  have hp := turn_perm L hi
  have hA := (hp.nodup_iff).2 hN
  have hm := hp.mem_iff.2 hv
  have h1 : (selL L i L.length).count v = 1 := by rw [hA.count, if_pos hm]
  have h2 : ((selL L i L.length).take r).count v ≤ 1 := by
    have := (List.take_sublist r (selL L i L.length)).count_le v
    omega
  rw [hf, List.count_append, count_rep, h1, Nat.mul_one]
  generalize cnt L L.length = n at *
  generalize e / n = q at *
  refine ⟨by omega, ?_⟩
  rcases Nat.eq_zero_or_pos r with h0 | h0
  · subst h0
    rw [List.take_zero, List.count_nil, he]
    rw [Nat.le_div_iff_mul_le (by omega), Nat.add_zero]
    omega
  · rw [Nat.le_div_iff_mul_le (by omega)]
    refine Nat.le_trans (Nat.mul_le_mul_right n (show q + _ ≤ q + 1 by omega)) ?_
    rw [Nat.add_mul, Nat.one_mul]
    omega
theorem posL_mem {L : List Int} {i e : Nat} (hu : ∃ j, j < L.length ∧ us (L.getD j 0) = true) (hi : i < L.length) {v : Int} (hv : v ∈ posL L i e) : v ∈ L.filter us := by
  obtain ⟨r, hr, he, hf⟩ := posL_form (e := e) hu hi
  rw [hf, List.mem_append] at hv
  refine (turn_perm L hi).mem_iff.1 ?_
  rcases hv with h | h
  · obtain ⟨l, hl, hv⟩ := List.mem_flatten.1 h
    rw [List.eq_of_mem_replicate hl] at hv
    exact hv
  · exact List.mem_of_mem_take h
theorem sum_add (A : List Int) (f g : Int → Nat) : (A.map fun v => f v + g v).sum = (A.map f).sum + (A.map g).sum := by
  induction A with
  | nil => rfl
  | cons a A ih => simp only [List.map_cons, List.sum_cons, ih]; omega
theorem sum_one (A : List Int) (x : Int) : (A.map fun v => if x == v then 1 else 0).sum = A.count x := by
  induction A with
  | nil => rfl
  | cons a A ih =>
    rw [List.map_cons, List.sum_cons, ih, List.count_cons, Nat.add_comm]
    congr 1
    by_cases h : x = a
    · subst h; simp
    · have h' : ¬ a = x := fun e => h e.symm
      simp [h, h']
theorem sum_count (A : List Int) (hA : A.Nodup) : ∀ X : List Int, (∀ x ∈ X, x ∈ A) → (A.map fun v => X.count v).sum = X.length
  | [], _ => by
    have e : (fun v : Int => ([] : List Int).count v) = fun _ => 0 := by funext v; rfl
    rw [e]
    clear hA
    induction A with
    | nil => rfl
    | cons a A ih => rw [List.map_cons, List.sum_cons]; simpa using ih (fun _ h => by cases h)
  | x :: X, h => by
    have ih := sum_count A hA X fun y hy => h y (List.mem_cons_of_mem _ hy)
    have e : (fun v => (x :: X).count v) = fun v => X.count v + (if x == v then 1 else 0) := by funext v; rw [List.count_cons]
    rw [e, sum_add, ih, sum_one, hA.count, if_pos (h x List.mem_cons_self), List.length_cons]
/-- How often the usable ones among the first n elements are selected. -/
def thereF (L X : List Int) : Nat → Nat
  | 0 => 0
  | n + 1 => thereF L X n + (if us (L.getD n 0) = true then X.count (L.getD n 0) else 0)
theorem thereF_eq (L X : List Int) : ∀ n, n ≤ L.length → thereF L X n = (((L.take n).filter us).map fun v => X.count v).sum
  | 0, _ => by simp [thereF]
  | n + 1, h => by
    have hn : n < L.length := by omega
    rw [thereF, thereF_eq L X n (by omega), List.take_add_one, List.filter_append, List.map_append, List.sum_append, List.getElem?_eq_getElem hn]
    congr 1
    have : L.getD n 0 = L[n] := by simp [List.getD, hn]
    rw [this]
    by_cases hu : us L[n] = true <;> simp [hu]
theorem thereF_all {L : List Int} {i e : Nat} (hu : ∃ j, j < L.length ∧ us (L.getD j 0) = true) (hi : i < L.length) (hN : (L.filter us).Nodup) : thereF L (posL L i e) L.length = e := by
  rw [thereF_eq L _ _ (Nat.le_refl _), List.take_length, sum_count _ hN _ (fun x hx => posL_mem hu hi hx), posL_len hu]
theorem thereF_mono (L X : List Int) {n m : Nat} (h : n ≤ m) : thereF L X n ≤ thereF L X m := by
  induction m with
  | zero => obtain rfl : n = 0 := by omega
            exact Nat.le_refl _
  | succ m ih =>
    rcases Nat.lt_or_ge n (m + 1) with h1 | h1
    · have := ih (by omega)
      rw [thereF]; omega
    · obtain rfl : n = m + 1 := by omega
      exact Nat.le_refl _
/-! The full buffer. -/
def stm (R j : Nat) : Nat := if j < 32 * R then 0 else 1 + (j - 32 * R) % 2
def pos (R j : Nat) : Nat := if j < 32 * R then j else (j - 32 * R) / 2
theorem fullF_el (k f R j : Nat) : fullF k f R j = el k f (stm R j) (Ord.ordF (k + 4) R (stm R j : Int) (pos R j)) := by
  unfold fullF stm pos
  by_cases h : j < 32 * R
  · rw [if_pos h, if_pos h, if_pos h]; rfl
  · rw [if_neg h, if_neg h, if_neg h]
theorem stm_lt (R j : Nat) : stm R j < 3 := by unfold stm; split <;> omega
theorem pos_lt {R j : Nat} (h : j < 96 * R) : pos R j < 32 * R := by unfold pos; split <;> omega
theorem stm_pos {R i j : Nat} (h1 : stm R i = stm R j) (h2 : pos R i = pos R j) : i = j := by
  unfold stm pos at *
  split at h1 <;> split at h1 <;> (rename_i a b; simp only [a, b, if_true, if_false] at h2; omega)
theorem el_us {k f s : Nat} {i : Int} (h : us (el k f s i) = true) : 0 ≤ i ∧ (s < 2 → (f : Int) ≤ i) ∧ el k f s i = ((s * (k + 4) : Nat) : Int) + i := by
  unfold el us at *
  split at h
  · simp at h
  · rename_i hn
    rw [if_neg hn]
    exact ⟨by omega, fun hs => by omega, rfl⟩
theorem ordF_lt {d R : Nat} {s : Int} {k : Nat} (hR : d ≤ 32 * R) (h : k < 32 * R) : Ord.ordF d R s k < d := (Ord.ordF_bd hR h).2
theorem ordF_inj {d R : Nat} {s : Int} {a b : Nat} (ha : a < 32 * R) (hb : b < 32 * R) (h0 : 0 ≤ Ord.ordF d R s a) (h : Ord.ordF d R s a = Ord.ordF d R s b) : a = b := by
  have h2 : Ord.idx2 R s a = Ord.idx2 R s b := by
    unfold Ord.ordF Ord.matF at *
    split at h0
    · omega
    · rename_i h1
      rw [if_neg h1] at h
      split at h
      · omega
      · omega
  rw [← Ord.inv2_idx (s := s) ha, ← Ord.inv2_idx (s := s) hb, h2]
theorem full_inj {k f R i j : Nat} (hR : k + 4 ≤ 32 * R) (hi : i < 96 * R) (hj : j < 96 * R) (h0 : us (fullF k f R i) = true) (h : fullF k f R i = fullF k f R j) : i = j := by
  have h0' := h ▸ h0
  rw [fullF_el] at h0 h0'
  rw [fullF_el k f R i, fullF_el k f R j] at h
  obtain ⟨a1, a2, a3⟩ := el_us h0
  obtain ⟨b1, b2, b3⟩ := el_us h0'
  rw [a3, b3] at h
  have ha := ordF_lt (s := (stm R i : Int)) hR (pos_lt hi)
  have hb := ordF_lt (s := (stm R j : Int)) hR (pos_lt hj)
  have hs : stm R i = stm R j := by
    have s1 := stm_lt R i
    have s2 := stm_lt R j
    generalize stm R i = a at *
    generalize stm R j = b at *
    rcases (show a = 0 ∨ a = 1 ∨ a = 2 by omega) with rfl | rfl | rfl <;> rcases (show b = 0 ∨ b = 1 ∨ b = 2 by omega) with rfl | rfl | rfl <;> omega
  refine stm_pos hs (ordF_inj (pos_lt hi) (pos_lt hj) a1 ?_)
  rw [← hs] at h
  omega
theorem full_bd {k f R j : Nat} (hR : k + 4 ≤ 32 * R) (hf : f < k) (hj : j < 96 * R) (h : us (fullF k f R j) = true) : (f : Int) ≤ fullF k f R j ∧ fullF k f R j < 3 * ((k : Int) + 4) ∧ ¬ ((k : Int) + 4 ≤ fullF k f R j ∧ fullF k f R j < (k : Int) + 4 + f) := by
  rw [fullF_el] at h
  obtain ⟨a1, a2, a3⟩ := el_us h
  have ha := ordF_lt (s := (stm R j : Int)) hR (pos_lt hj)
  rw [fullF_el, a3]
  have s1 := stm_lt R j
  generalize stm R j = a at *
  rcases (show a = 0 ∨ a = 1 ∨ a = 2 by omega) with rfl | rfl | rfl <;> omega
theorem buf_eq {k f R n : Nat} (h : n ≤ 96 * R) : buf k f R n = (List.range n).map (fullF k f R) := by
  rw [buf, fullL, ← List.map_take, List.take_range, Nat.min_eq_left h]
theorem buf_at {k f R n j : Nat} (h : n ≤ 96 * R) (hj : j < n) : (buf k f R n).getD j 0 = fullF k f R j := by
  rw [buf_eq h]; simp [hj]
theorem buf_nodup {k f R n : Nat} (hR : k + 4 ≤ 32 * R) (h : n ≤ 96 * R) : ((buf k f R n).filter us).Nodup := by
  rw [buf_eq h, List.Nodup, List.pairwise_filter, List.pairwise_map]
  refine List.Pairwise.imp_of_mem (R := fun a b => a < b) ?_ List.pairwise_lt_range
  intro a b ha hb hab h1 h2 he
  have := full_inj hR (by have := List.mem_range.1 ha; omega) (by have := List.mem_range.1 hb; omega) h1 he
  omega
end Rm
end Go.Proofs.Ytpnmfnjpbhjddaa
/- Rate matching: the number of usable elements of the full buffer; what is seen so far; no program. -/
namespace Go.Proofs.Ytpnmfnjpbhjddaa
open Go.RowKit
namespace Rm
theorem ocnt_congr {p q : Nat → Bool} : ∀ n, (∀ j, j < n → p j = q j) → Ord.cnt p n = Ord.cnt q n
  | 0, _ => rfl
  | n + 1, h => by rw [Ord.cnt, Ord.cnt, ocnt_congr n (fun j hj => h j (by omega)), h n (by omega)]
theorem ocnt_not (p : Nat → Bool) : ∀ n, Ord.cnt p n + Ord.cnt (fun j => !p j) n = n
  | 0 => rfl
  | n + 1 => by
    have := ocnt_not p n
    rw [Ord.cnt, Ord.cnt]
    cases p n <;> simp <;> omega
theorem cnt_pred {k f R : Nat} : ∀ n, n ≤ 96 * R → cnt (buf k f R (96 * R)) n = Ord.cnt (fun j => us (fullF k f R j)) n
  | 0, _ => rfl
  | n + 1, h => by rw [cnt, Ord.cnt, cnt_pred n (by omega), buf_at (Nat.le_refl _) (by omega)]
theorem us_el (k f s : Nat) (i : Int) : us (el k f s i) = decide (((if s < 2 then f else 0 : Nat) : Int) ≤ i) := by
  unfold us el
  rw [Bool.eq_iff_iff, decide_eq_true_eq, decide_eq_true_eq]
  by_cases hs : s < 2
  · rw [if_pos hs]
    by_cases h : i < 0 ∨ (s < 2 ∧ i < (f : Int))
    · rw [if_pos h]; omega
    · rw [if_neg h]; omega
  · rw [if_neg hs]
    by_cases h : i < 0 ∨ (s < 2 ∧ i < (f : Int))
    · rw [if_pos h]; omega
    · rw [if_neg h]; omega
/-- One stream. -/
theorem cnt_stream {k f R s : Nat} (hR : k + 4 ≤ 32 * R) (hf : f < k) : Ord.cnt (fun m => us (el k f s (Ord.ordF (k + 4) R (s : Int) m))) (32 * R) = k + 4 - (if s < 2 then f else 0) := by
  have hlo : (if s < 2 then f else 0) ≤ f := by split <;> omega
  have e : ∀ m, us (el k f s (Ord.ordF (k + 4) R (s : Int) m)) = !decide (Ord.idx2 R (s : Int) m < 32 * R - (k + 4) + (if s < 2 then f else 0)) := by
    intro m
    rw [us_el]
    generalize (if s < 2 then f else 0) = lo
    rw [Bool.eq_iff_iff]
    unfold Ord.ordF Ord.matF
    split <;> simp <;> omega
  simp only [e]
  generalize (if s < 2 then f else 0) = lo at *
  have hb := Ord.cnt_below (R := R) (s := (s : Int)) (32 * R - (k + 4) + lo) (by omega)
  have hn := ocnt_not (fun m => decide (Ord.idx2 R (s : Int) m < 32 * R - (k + 4) + lo)) (32 * R)
  omega
theorem cnt_two {p : Nat → Bool} {A : Nat} : ∀ m, Ord.cnt p (A + 2 * m) = Ord.cnt p A + Ord.cnt (fun i => p (A + 2 * i)) m + Ord.cnt (fun i => p (A + 2 * i + 1)) m
  | 0 => rfl
  | m + 1 => by
    rw [show A + 2 * (m + 1) = (A + 2 * m + 1) + 1 by omega, Ord.cnt, Ord.cnt, cnt_two m, Ord.cnt, Ord.cnt]
    omega
theorem cnt_full {k f R : Nat} (hR : k + 4 ≤ 32 * R) (hf : f < k) : cnt (buf k f R (96 * R)) (96 * R) = 3 * (k + 4) - 2 * f := by
  have h0 := cnt_stream (f := f) (s := 0) hR hf
  have h1 := cnt_stream (f := f) (s := 1) hR hf
  have h2 := cnt_stream (f := f) (s := 2) hR hf
  rw [if_pos (by omega)] at h0 h1
  rw [if_neg (by omega)] at h2
  rw [cnt_pred _ (Nat.le_refl _), show 96 * R = 32 * R + 2 * (32 * R) by omega, cnt_two]
  have e0 : Ord.cnt (fun j => us (fullF k f R j)) (32 * R) = Ord.cnt (fun m => us (el k f 0 (Ord.ordF (k + 4) R ((0 : Nat) : Int) m))) (32 * R) :=
    ocnt_congr _ fun m hm => by rw [fullF, if_pos hm]; rfl
  have e1 : Ord.cnt (fun i => us (fullF k f R (32 * R + 2 * i))) (32 * R) = Ord.cnt (fun m => us (el k f 1 (Ord.ordF (k + 4) R ((1 : Nat) : Int) m))) (32 * R) :=
    ocnt_congr _ fun m hm => by
      rw [fullF, if_neg (by omega), show (32 * R + 2 * m - 32 * R) % 2 = 0 by omega, show (32 * R + 2 * m - 32 * R) / 2 = m by omega]
  have e2 : Ord.cnt (fun i => us (fullF k f R (32 * R + 2 * i + 1))) (32 * R) = Ord.cnt (fun m => us (el k f 2 (Ord.ordF (k + 4) R ((2 : Nat) : Int) m))) (32 * R) :=
    ocnt_congr _ fun m hm => by
      rw [fullF, if_neg (by omega), show (32 * R + 2 * m + 1 - 32 * R) % 2 = 1 by omega, show (32 * R + 2 * m + 1 - 32 * R) / 2 = m by omega]
  rw [e0, e1, e2, h0, h1, h2]
  omega
/-- Whether v is among the first n elements. -/
def met (L : List Int) (n : Nat) (v : Int) : Bool := (List.range n).any fun j => L.getD j 0 == v
def seenB (D : Nat) (L : List Int) (n : Nat) : List Value := (List.range D).map fun (v : Nat) => Value.bool (met L n (v : Int))
theorem seenB_len (D : Nat) (L : List Int) (n : Nat) : (seenB D L n).length = D := by simp [seenB]
theorem seenB_zero (D : Nat) (L : List Int) : seenB D L 0 = List.replicate D (.bool false) := by
  apply List.ext_getElem
  · simp [seenB]
  · intro i h1 h2; simp [seenB, met]
theorem met_succ (L : List Int) (n : Nat) (v : Int) : met L (n + 1) v = (met L n v || (L.getD n 0 == v)) := by simp [met, List.range_succ]
theorem seenB_at {D : Nat} {L : List Int} {n i : Nat} (h : i < D) : (seenB D L n)[i]'(by rw [seenB_len]; exact h) = .bool (met L n (i : Int)) := by simp [seenB]
theorem seenB_miss {D : Nat} {L : List Int} {n : Nat} (h : L.getD n 0 < 0) : seenB D L (n + 1) = seenB D L n := by
  unfold seenB
  apply List.map_congr_left
  intro v _
  rw [met_succ]
  have : (L.getD n 0 == (v : Int)) = false := by rw [beq_eq_false_iff_ne]; omega
  rw [this, Bool.or_false]
theorem seenB_hit {D : Nat} {L : List Int} {n x : Nat} (h : L.getD n 0 = (x : Int)) (hx : x < D) : (seenB D L n).set x (.bool true) = seenB D L (n + 1) := by
  apply List.ext_getElem
  · simp [seenB]
  · intro i h1 h2
    have hi : i < D := by simpa [seenB] using h2
    rw [List.getElem_set, seenB_at hi]
    split
    · rename_i e
      subst e
      rw [seenB_at hi, met_succ, h]; simp
    · rename_i e
      rw [seenB_at hi, met_succ, h]
      have : (((x : Nat) : Int) == (i : Int)) = false := by rw [beq_eq_false_iff_ne]; omega
      rw [this, Bool.or_false]
theorem met_no {k f R S j : Nat} (hR : k + 4 ≤ 32 * R) (hS : S ≤ 96 * R) (hj : j < S) (h : us ((buf k f R S).getD j 0) = true) : met (buf k f R S) j ((buf k f R S).getD j 0) = false := by
  unfold met
  rw [List.any_eq_false]
  intro i hi
  have hi' := List.mem_range.1 hi
  intro e
  rw [beq_iff_eq] at e
  rw [buf_at hS hj] at e h
  rw [buf_at hS (by omega)] at e
  have := full_inj hR (by omega) (by omega) h e.symm
  omega
/-- How often each position below D is among the first n. -/
def oftL (D : Nat) (X : List Int) (n : Nat) : List Int := (List.range D).map fun (v : Nat) => (((X.take n).count (v : Int) : Nat) : Int)
theorem oftL_len (D : Nat) (X : List Int) (n : Nat) : (oftL D X n).length = D := by simp [oftL]
theorem oftL_zero (D : Nat) (X : List Int) : oftL D X 0 = List.replicate D 0 := by
  apply List.ext_getElem
  · simp [oftL]
  · intro i h1 h2; simp [oftL]
theorem oftL_at {D : Nat} {X : List Int} {n i : Nat} (h : i < D) : (oftL D X n).getD i 0 = (((X.take n).count (i : Int) : Nat) : Int) := by simp [oftL, h]
theorem oftL_hit {D : Nat} {X : List Int} {n x : Nat} (hn : n < X.length) (h : X.getD n 0 = (x : Int)) (hx : x < D) : (oftL D X n).set x ((((X.take n).count (x : Int) : Nat) : Int) + 1) = oftL D X (n + 1) := by
  have e : X[n] = (x : Int) := by simpa [List.getD, hn] using h
  apply List.ext_getElem
  · simp [oftL]
  · intro i h1 h2
    have hi : i < D := by simpa [oftL] using h2
    rw [List.getElem_set]
    have ht : (X.take (n + 1)).count (i : Int) = (X.take n).count (i : Int) + (if (x : Int) == (i : Int) then 1 else 0) := by
      rw [List.take_add_one, List.count_append, List.getElem?_eq_getElem hn, e]
      simp [List.count_singleton]
    split
    · rename_i e'
      subst e'
      simp only [oftL, List.getElem_map, List.getElem_range]
      rw [ht]; simp
    · rename_i e'
      simp only [oftL, List.getElem_map, List.getElem_range]
      rw [ht]
      have : (((x : Nat) : Int) == (i : Int)) = false := by rw [beq_eq_false_iff_ne]; omega
      rw [this]; simp
end Rm
end Go.Proofs.Ytpnmfnjpbhjddaa

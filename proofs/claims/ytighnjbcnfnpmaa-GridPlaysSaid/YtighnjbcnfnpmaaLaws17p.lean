/- userplanelaw17.GridPlays. -/
import Derived.Test.YtighnjbcnfnpmaaGriR
namespace Go.Proofs.Ytighnjbcnfnpmaa
open Go.RowKit Go.Shelf
set_option linter.unusedVariables false
attribute [local go_sem ↓] Go.wp_at_zero Go.wp_at_succ
set_option maxRecDepth 100000 in
set_option maxHeartbeats 16000000 in
theorem law_GridPlays (w : World) (b t l : Int) (v : Value) (M : Nat) (A : Nat → Nat → Int) (wb : (Lit.int .i64 b).wf = true) (wt : (Lit.int .i64 t).wf = true) (wl : (Lit.int .i64 l).wf = true) (hA : ActsIn w v M A) :
    Calls Try.prog 8 #[CV b t l, v] w fun e w' => e = .returned (.bool true) ∧ Below w.heap.size w w' := by
  have HA := hid hA
  obtain ⟨aa, ca, rfl, _⟩ := hA
  by_cases hbig : 12 < M
  · have hd : decide (12 < M) = true := decide_eq_true hbig
    clear wb wt wl
    go_enter Try.func8, Try.ntmps8
    go_wp2_with fail
    refine (works17 _).mono ?_
    rintro r w1 ⟨rfl, B1⟩
    go_wp2
    go_ret
    exact ⟨rfl, up_alloc B1⟩
  cases hv : Gr.vld b t l with
  | false =>
    have K1 := hid (gnew_bad b t l hv)
    have K2 := hid (rnew_bad b t l hv)
    have hd : decide (12 < M) = false := decide_eq_false hbig
    clear hv wb wt wl
    go_enter Try.func8, Try.ntmps8
    go_wp2_with fail
    refine (K1.out _).mono ?_
    rintro r w1 ⟨rfl, B1⟩
    have HC1 := hid (show Blk w1 w.heap.size 23 #[.int .i64 b, .int .i64 t, .int .i64 l] from Blk.below (Blk.new w _ _) B1 (by simp))
    have HB1 := hid (up_alloc B1)
    clear B1
    have c0 : w1.cell? ⟨w.heap.size, 0, none⟩ = some (.int .i64 b) := HC1.out.cell 0
    have c1 : w1.cell? ⟨w.heap.size, 1, none⟩ = some (.int .i64 t) := HC1.out.cell 1
    have c2 : w1.cell? ⟨w.heap.size, 2, none⟩ = some (.int .i64 l) := HC1.out.cell 2
    go_wp2_with fail
    refine (K2.out _).mono ?_
    rintro r w2 ⟨rfl, B2⟩
    have HB2 := hid (below_then HB1.out B2)
    clear B2 c0 c1 c2
    go_wp2_with (first
      | (go_at_call 12; refine (num17_any _ _).mono ?_; rintro r w' ⟨rfl, rfl⟩)
      | (go_at_call 15; refine (works17 _).mono ?_; rintro r w3 ⟨rfl, B3⟩))
    go_ret
    exact ⟨rfl, below_then HB2.out (up_alloc B3)⟩
  | true =>
    have K1 := hid (gnew_ok b t l hv)
    have K2 := hid (rnew_ok b t l hv)
    have hc := Gr.vld_iff.1 hv
    have b0 := hc.b0
    have b1 := hc.b1
    have Hv := hid hv
    obtain ⟨N, hN⟩ : ∃ N : Nat, (168 * b).toNat = N := ⟨_, rfl⟩
    have hN0 : 1008 ≤ N := by omega
    have hN1 : N ≤ 16800 := by omega
    have HNt := hid hN
    have Hnl := hid (show (Gr.newP b t l).length = N by rw [Gr.newP_len, hN])
    rw [hN] at K2
    have hd : decide (12 < M) = false := decide_eq_false hbig
    have hM : M ≤ 12 := by omega
    clear hv hc wb wt wl hN hbig
    go_enter Try.func8, Try.ntmps8
    go_wp2_with fail
    refine (K1.out _).mono ?_
    rintro r w1 ⟨⟨g, q1, rfl, hg, hq, hG⟩, B1⟩
    have HC1 := hid (show Blk w1 w.heap.size 23 #[.int .i64 b, .int .i64 t, .int .i64 l] from Blk.below (Blk.new w _ _) B1 (by simp))
    have HB1 := hid (up_alloc B1)
    have HG1 := hid hG
    have hgl := hG.lt
    have hgw : w.heap.size < g := by simp at hg; omega
    have hqw : w.heap.size < q1 := by simp at hq; omega
    clear B1 hG hg hq
    have c0 : w1.cell? ⟨w.heap.size, 0, none⟩ = some (.int .i64 b) := HC1.out.cell 0
    have c1 : w1.cell? ⟨w.heap.size, 1, none⟩ = some (.int .i64 t) := HC1.out.cell 1
    have c2 : w1.cell? ⟨w.heap.size, 2, none⟩ = some (.int .i64 l) := HC1.out.cell 2
    go_wp2_with fail
    refine (K2.out _).mono ?_
    rintro r w2 ⟨⟨rb1, cap1, rfl, hrb, hO⟩, B2⟩
    have HO2 := hid hO
    have HG2 := hid (HG1.out.blw B2)
    have HC2 := hid (HC1.out.below B2 HC1.out.lt)
    have HB2 := hid (below_then HB1.out B2)
    have h12 : w1.heap.size ≤ w2.heap.size := B2.size
    have hrl := (hO.block (g := rb1) rfl).2
    clear B2 hO c0 c1 c2 HG1 HC1 HB1
    go_wp2_with (go_at_call 12; refine (num17_any _ _).mono ?_; rintro r w' ⟨rfl, rfl⟩)
    generalize hW : World.alloc _ _ = w3
    have F : Fr (fun _ => False) w2 w3 := by rw [← hW]; exact Fr.alloc _ _ _
    have HX3 := hid (show Blk w3 w2.heap.size 60 #[.int .i64 b, .int .i64 t, .int .i64 l, .slice (some ⟨rb1, 0, none⟩) N cap1] by rw [← hW]; exact Blk.new w2 _ _)
    have HO3 := hid (HO2.out.fr F (fun _ _ h => h))
    have HG3 := hid (HG2.out.fr F (fun h => h) (fun h => h))
    have HC3 := hid (HC2.out.fr F (fun h => h))
    have HB3 := hid (HB2.out.trans (F.below HB2.out.size (fun _ _ h => h)))
    have hX3 := HX3.out.lt
    have hbg : g < w2.heap.size := by omega
    clear hW F HO2 HG2 HC2 HB2
    go_loopw [9] (fun i wr => ∃ k : Nat, k ≤ M ∧ i = .int .i64 k ∧ ∃ (q rb cap : Nat) (ps : List Pt), ps.length = N ∧ GB wr g q b t l ps ∧ Blk wr w2.heap.size 60 #[.int .i64 b, .int .i64 t, .int .i64 l, .slice (some ⟨rb, 0, none⟩) N cap] ∧ POwn wr rb 53 (.slice (some ⟨rb, 0, none⟩) N cap) ps ∧ Blk wr w.heap.size 23 #[.int .i64 b, .int .i64 t, .int .i64 l] ∧ Below w.heap.size w wr ∧ w.heap.size < q ∧ w.heap.size < rb ∧ q ≠ rb ∧ q ≠ w2.heap.size ∧ rb ≠ w2.heap.size ∧ rb ≠ g) (fun i _ => M - (intOf i).toNat)
    case atStart => exact ⟨0, Nat.zero_le _, rfl, q1, rb1, cap1, _, Hnl.out, HG3.out, HX3.out, HO3.out, HC3.out, HB3.out, hqw, by omega, by omega, by omega, by omega, by omega⟩
    case round =>
      obtain ⟨k, hk, rfl, q, rb, cap, ps, hps, hG, hX, hO, hC, hB, hqw, hrw, hqr, hqh, hrh, hrg⟩ := hrel
      by_cases hlt : k < M
      · obtain ⟨ab, ao, e1, x0, x1, x2, x3, x4, wf1, wf2⟩ := HA.out.at hB hlt
        cases e1
        have Hps := hid hps
        have HG := hid hG
        have HX := hid hX
        have HO := hid hO
        have HC := hid hC
        have HB := hid hB
        have hgl := hG.lt
        have hrl := (hO.block (g := rb) rfl).2
        have hhl := hX.lt
        have Wf1 := hid wf1
        have Wf2 := hid wf2
        generalize A k 0 = a0 at *
        generalize A k 1 = a1 at *
        generalize A k 2 = a2 at *
        generalize A k 3 = a3 at *
        generalize A k 4 = a4 at *
        clear hG hX hO hC hB hps wf1 wf2
        have hcs : a0 = 0 ∨ a0 = 1 ∨ a0 = 2 ∨ ((a0 == 0) = false ∧ (a0 == 1) = false ∧ (a0 == 2) = false) := by
          by_cases h0 : a0 = 0
          · left; exact h0
          · by_cases h1 : a0 = 1
            · right; left; exact h1
            · by_cases h2 : a0 = 2
              · right; right; left; exact h2
              · right; right; right; exact ⟨beq_eq_false_iff_ne.2 h0, beq_eq_false_iff_ne.2 h1, beq_eq_false_iff_ne.2 h2⟩
        rcases hcs with rfl | rfl | rfl | ⟨z0, z1, z2⟩
        · go_wp2_with fail
          generalize hW : World.alloc _ _ = w5
          have F : Fr (fun _ => False) wr w5 := by rw [← hW]; exact Fr.alloc _ _ _
          have HY5 := hid (show Blk w5 wr.heap.size 64 #[.int .i64 0, .int .i64 a1, .int .i64 a2, .int .i64 a3, .int .i64 a4] by rw [← hW]; exact Blk.new wr _ _)
          have HG5 := hid (HG.out.fr F (fun h => h) (fun h => h))
          have HX5 := hid (HX.out.fr F (fun h => h))
          have HO5 := hid (HO.out.fr F (fun _ _ h => h))
          have HC5 := hid (HC.out.fr F (fun h => h))
          have HB5 := hid (HB.out.trans (F.below HB.out.size (fun _ _ h => h)))
          have h5 : wr.heap.size < w5.heap.size := HY5.out.lt
          clear hW F HG HX HO HC HB x0 x1 x2 x3 x4
          have c0 : w5.cell? ⟨wr.heap.size, 0, none⟩ = some (.int .i64 0) := HY5.out.cell 0
          have c1 : w5.cell? ⟨wr.heap.size, 1, none⟩ = some (.int .i64 a1) := HY5.out.cell 1
          have c2 : w5.cell? ⟨wr.heap.size, 2, none⟩ = some (.int .i64 a2) := HY5.out.cell 2
          have c3 : w5.cell? ⟨wr.heap.size, 3, none⟩ = some (.int .i64 a3) := HY5.out.cell 3
          have c4 : w5.cell? ⟨wr.heap.size, 4, none⟩ = some (.int .i64 a4) := HY5.out.cell 4
          go_wp2_with fail
          refine (points_any a3 a4 _).mono ?_
          rintro r w6 ⟨⟨vp, P, rfl, -, hP⟩, B⟩
          have HP6 := hid hP
          have HpB := hid (show ∀ j, vp.ownBlock = some j → w5.heap.size ≤ j from fun j e => (hP.block e).1)
          have HG6 := hid (HG5.out.blw B)
          have HX6 := hid (HX5.out.below B HX5.out.lt)
          have HO6 := hid (HO5.out.below B (Nat.le_refl _))
          have HC6 := hid (HC5.out.below B HC5.out.lt)
          have HB6 := hid (below_then HB5.out B)
          have HY6 := hid (HY5.out.below B HY5.out.lt)
          have h56 : w5.heap.size ≤ w6.heap.size := B.size
          have KR := hid (rput_any b t l a1 a2 rb cap ps vp P w6 (by rw [Hps.out]; exact HO6.out) (by rw [Hps.out, HNt.out]) (by rw [Hps.out]; omega) (by rw [Hps.out]; omega) HP6.out.vw)
          rw [Hps.out] at KR
          have hpq : ∀ b off n c, vp = .slice (some ⟨b, off, none⟩) n c → b ≠ q := fun b' off n' c' e => by
            have := HpB.out b' (by rw [e]; rfl)
            omega
          have KP := hid (fun W (h : GB W g q b t l ps) (hp : PVw W vp P) => gput_any h Hv.out (by rw [Hps.out, HNt.out]) a1 a2 Wf1.out Wf2.out vp P hp hpq)
          have hPSl : (Gr.putS b t l ps a1 a2 P).length = N := by rw [putS_len]; exact Hps.out
          have HPSl := hid hPSl
          generalize Gr.putE b t l a1 a2 P.length = er at *
          generalize Gr.putS b t l ps a1 a2 P = PS at *
          clear B hP c0 c1 c2 c3 c4 HG5 HX5 HO5 HC5 HB5 HY5 hpq hPSl
          have c1 : w6.cell? ⟨wr.heap.size, 1, none⟩ = some (.int .i64 a1) := HY6.out.cell 1
          have c2 : w6.cell? ⟨wr.heap.size, 2, none⟩ = some (.int .i64 a2) := HY6.out.cell 2
          have d0 : w6.cell? ⟨w2.heap.size, 0, none⟩ = some (.int .i64 b) := HX6.out.cell 0
          have d1 : w6.cell? ⟨w2.heap.size, 1, none⟩ = some (.int .i64 t) := HX6.out.cell 1
          have d2 : w6.cell? ⟨w2.heap.size, 2, none⟩ = some (.int .i64 l) := HX6.out.cell 2
          have d3 : w6.cell? ⟨w2.heap.size, 3, none⟩ = some (.slice (some ⟨rb, 0, none⟩) N cap) := HX6.out.cell 3
          go_wp2_with fail
          refine KR.out.mono ?_
          rintro r w7 ⟨⟨q2, cap2, rfl, hq2, hO2⟩, B⟩
          have HO7 := hid hO2
          have Hq2 := hid hq2
          have hq2l := (hO2.block (g := q2) rfl).2
          have HG7 := hid (HG6.out.blw B)
          have HX7 := hid (HX6.out.below B HX6.out.lt)
          have HC7 := hid (HC6.out.below B HC6.out.lt)
          have HB7 := hid (below_then HB6.out B)
          have HY7 := hid (HY6.out.below B HY6.out.lt)
          have HP7 := hid (HP6.out.below B (Nat.le_refl _))
          have h67 : w6.heap.size ≤ w7.heap.size := B.size
          clear B hO2 hq2 c1 c2 d0 d1 d2 d3 HG6 HX6 HO6 HC6 HB6 HY6 HP6 KR
          have c1 : w7.cell? ⟨wr.heap.size, 1, none⟩ = some (.int .i64 a1) := HY7.out.cell 1
          have c2 : w7.cell? ⟨wr.heap.size, 2, none⟩ = some (.int .i64 a2) := HY7.out.cell 2
          have d0 : w7.cell? ⟨w2.heap.size, 0, none⟩ = some (.int .i64 b) := HX7.out.cell 0
          have d1 : w7.cell? ⟨w2.heap.size, 1, none⟩ = some (.int .i64 t) := HX7.out.cell 1
          have d2 : w7.cell? ⟨w2.heap.size, 2, none⟩ = some (.int .i64 l) := HX7.out.cell 2
          have d3 : w7.cell? ⟨w2.heap.size, 3, none⟩ = some (.slice (some ⟨rb, 0, none⟩) N cap) := HX7.out.cell 3
          have z0 := HX7.out.frozen 0
          have z1 := HX7.out.frozen 1
          have z2 := HX7.out.frozen 2
          have z3 := HX7.out.frozen 3
          have n1 : ¬ wr.heap.size = w2.heap.size := by omega
          have n2 : ¬ w2.heap.size = w7.heap.size := by omega
          have n3 : ¬ wr.heap.size = w7.heap.size := by omega
          have l1 : w2.heap.size < w7.heap.size := by omega
          have l2 : wr.heap.size < w7.heap.size := by omega
          go_wp2_with fail
          clear c1 c2 d0 d1 d2 d3 z0 z1 z2 z3
          have hq2h : q2 ≠ w2.heap.size := by have := Hq2.out; omega
          have h8 := rbox_set HX7.out (v0 := .int .i64 b) (v1 := .int .i64 t) (v2 := .int .i64 l) (v3 := .slice (some ⟨q2, 0, none⟩) N cap2) rfl
          generalize hW : World.setCell _ _ _ = v8 at h8 ⊢
          generalize hW2 : World.alloc _ _ = w8
          have F0 : Fr (fun j => j = w2.heap.size) v8 w8 := by rw [← hW2]; exact Fr.alloc _ _ _
          have F := h8.2.trans F0
          have HX8 := hid (h8.1.fr (show Fr (fun _ => False) v8 w8 by rw [← hW2]; exact Fr.alloc _ _ _) (fun h => h))
          have hsz8 : w7.heap.size ≤ w8.heap.size := F.size
          clear hW2 F0
          have HG8 := hid (HG7.out.fr F (by omega) (by omega))
          have HC8 := hid (HC7.out.fr F (by omega))
          have HB8 := hid (HB7.out.trans (F.below HB7.out.size (fun j hj e => by omega)))
          have HY8 := hid (HY7.out.fr F (by omega))
          have HP8 := hid (HP7.out.fr F (fun g2 e2 => by have := (HP7.out.block e2); omega))
          have HO8 := hid (HO7.out.fr F (fun g2 e2 => by have := (HO7.out.block e2); simp [Value.ownBlock] at e2; omega))
          clear hW F h8 HG7 HX7 HO7 HC7 HB7 HY7 HP7
          refine (KP.out _ HG8.out HP8.out.vw).mono ?_
          rintro r w9 ⟨rfl, hG9, F⟩
          have HG9 := hid hG9
          have HX9 := hid (HX8.out.fr F (by omega))
          have hq2q : q2 ≠ q := by have := Hq2.out; omega
          have HO9 := hid (HO8.out.fr F (fun g2 e2 => by simp [Value.ownBlock] at e2; omega))
          have HC9 := hid (HC8.out.fr F (by omega))
          have HB9 := hid (HB8.out.trans (F.below HB8.out.size (fun j hj e => by omega)))
          clear F hG9 HG8 HX8 HO8 HC8 HB8 HY8 HP8
          go_wp2_with (go_at_call 12; refine (num17_any _ _).mono ?_; rintro r w' ⟨rfl, rfl⟩)
          have KC := hid (fun W (h : Below w9.heap.size w9 W) => (gconfig_any (HG9.out.blw h) (by rw [HPSl.out]; omega)).mono fun r w' h' => (⟨h'.1, below_then h h'.2⟩ : _ ∧ Below w9.heap.size w9 w'))
          have KP := hid (fun W (h : Below w9.heap.size w9 W) => (gpoints_any (HG9.out.blw h) (by rw [HPSl.out]; omega) (by rw [HPSl.out]; omega)).mono fun r w' h' => (⟨h'.1, below_then h h'.2⟩ : _ ∧ Below w9.heap.size w9 w'))
          have HS := hid (show ∀ W, Below w9.heap.size w9 W → W.cell? ⟨w.heap.size, 0, none⟩ = some (.int .i64 b) ∧ W.cell? ⟨w.heap.size, 1, none⟩ = some (.int .i64 t) ∧ W.cell? ⟨w.heap.size, 2, none⟩ = some (.int .i64 l) ∧ W.cell? ⟨w2.heap.size, 3, none⟩ = some (.slice (some ⟨q2, 0, none⟩) N cap2) from fun W h => ⟨(HC9.out.below h HC9.out.lt).cell 0, (HC9.out.below h HC9.out.lt).cell 1, (HC9.out.below h HC9.out.lt).cell 2, (HX9.out.below h HX9.out.lt).cell 3⟩)
          have B0 : Below w9.heap.size w9 w9.drew := below_drewN w9 1
          have KS := hid (fun W vz (h : Below w9.heap.size w9 W) (hz : PVw W vz PS) => (refSame17 W vz _ PS PS hz (HO9.out.vw.below h (Nat.le_refl _)) (by rw [HPSl.out]; omega) (by rw [HPSl.out]; omega)).mono fun r w' h' => (⟨h'.1.trans (by rw [decide_eq_true rfl]), below_then h (by obtain ⟨m', e⟩ := h'.2; rw [e]; exact below_drewN _ _)⟩ : r = .returned (.bool true) ∧ Below w9.heap.size w9 w'))
          go_region_held3 (fun W => W.cell? ⟨w.heap.size, 0, none⟩ = some (.int .i64 b) ∧ W.cell? ⟨w.heap.size, 1, none⟩ = some (.int .i64 t) ∧ W.cell? ⟨w.heap.size, 2, none⟩ = some (.int .i64 l) ∧ W.cell? ⟨w2.heap.size, 3, none⟩ = some (.slice (some ⟨q2, 0, none⟩) N cap2)) (exact HS.out _ (by assumption))
            ((first
              | (go_at_call 32; (with_reducible refine (KC.out _ (by assumption)).mono ?_); rintro r wa ⟨rfl, Ba⟩)
              | (go_at_call 24; (with_reducible refine (KP.out _ (by assumption)).mono ?_); rintro r wp ⟨⟨vz, rfl, hz⟩, Bp⟩; have HZ := hid hz.vw; clear hz)
              | (go_at_call 26; (with_reducible refine (KS.out _ _ (by assumption) HZ.out).mono ?_); rintro r ws ⟨rfl, Bs⟩)))
          all_goals
            have HGz := hid (HG9.out.blw Bs)
            have HXz := hid (HX9.out.below Bs HX9.out.lt)
            have HOz := hid (HO9.out.below Bs (Nat.le_refl _))
            have HCz := hid (HC9.out.below Bs HC9.out.lt)
            have HBz := hid (below_then HB9.out Bs)
            clear Ba Bp Bs B0
            go_wp2
            go_roundw
            case rel => exact ⟨k + 1, by omega, by go_num, q, q2, cap2, PS, HPSl.out, HGz.out, HXz.out, HOz.out, HCz.out, HBz.out, by omega, by have := Hq2.out; omega, by have := Hq2.out; omega, by omega, by omega, by have := Hq2.out; omega⟩
            case measure => simp [intOf]; omega
        · go_wp2_with fail
          generalize hW : World.alloc _ _ = w5
          have F : Fr (fun _ => False) wr w5 := by rw [← hW]; exact Fr.alloc _ _ _
          have HY5 := hid (show Blk w5 wr.heap.size 64 #[.int .i64 1, .int .i64 a1, .int .i64 a2, .int .i64 a3, .int .i64 a4] by rw [← hW]; exact Blk.new wr _ _)
          have HG5 := hid (HG.out.fr F (fun h => h) (fun h => h))
          have HX5 := hid (HX.out.fr F (fun h => h))
          have HO5 := hid (HO.out.fr F (fun _ _ h => h))
          have HC5 := hid (HC.out.fr F (fun h => h))
          have HB5 := hid (HB.out.trans (F.below HB.out.size (fun _ _ h => h)))
          have h5 : wr.heap.size < w5.heap.size := HY5.out.lt
          clear hW F HG HX HO HC HB x0 x1 x2 x3 x4
          have c0 : w5.cell? ⟨wr.heap.size, 0, none⟩ = some (.int .i64 1) := HY5.out.cell 0
          have c1 : w5.cell? ⟨wr.heap.size, 1, none⟩ = some (.int .i64 a1) := HY5.out.cell 1
          have c2 : w5.cell? ⟨wr.heap.size, 2, none⟩ = some (.int .i64 a2) := HY5.out.cell 2
          have KG := hid (gget_any HG5.out Hv.out (by rw [Hps.out, HNt.out]) a1 a2 Wf1.out Wf2.out)
          go_wp2_with fail
          refine KG.out.mono ?_
          rintro r w6 ⟨⟨vp, rfl, hP⟩, B⟩
          have HP6 := hid hP.vw
          have HG6 := hid (HG5.out.blw B)
          have HX6 := hid (HX5.out.below B HX5.out.lt)
          have HO6 := hid (HO5.out.below B (Nat.le_refl _))
          have HC6 := hid (HC5.out.below B HC5.out.lt)
          have HB6 := hid (below_then HB5.out B)
          have HY6 := hid (HY5.out.below B HY5.out.lt)
          have hRb : (Gr.getP ps (Gr.datL b t l a1 a2)).length ≤ 100000 := by rw [Gr.getP_len]; have := Gr.dat_len b t l a1 a2; rw [HNt.out] at this; omega
          have KR := hid (rget_any b t l a1 a2 _ ps w6 HO6.out.vw (by rw [Hps.out, HNt.out]) (by rw [Hps.out]; omega))
          generalize Gr.getP ps (Gr.datL b t l a1 a2) = R at *
          generalize Gr.datE b t l a1 a2 = er at *
          clear B hP c0 c1 c2 HG5 HX5 HO5 HC5 HB5 HY5 KG
          have c1 : w6.cell? ⟨wr.heap.size, 1, none⟩ = some (.int .i64 a1) := HY6.out.cell 1
          have c2 : w6.cell? ⟨wr.heap.size, 2, none⟩ = some (.int .i64 a2) := HY6.out.cell 2
          have d0 : w6.cell? ⟨w2.heap.size, 0, none⟩ = some (.int .i64 b) := HX6.out.cell 0
          have d1 : w6.cell? ⟨w2.heap.size, 1, none⟩ = some (.int .i64 t) := HX6.out.cell 1
          have d2 : w6.cell? ⟨w2.heap.size, 2, none⟩ = some (.int .i64 l) := HX6.out.cell 2
          have d3 : w6.cell? ⟨w2.heap.size, 3, none⟩ = some (.slice (some ⟨rb, 0, none⟩) N cap) := HX6.out.cell 3
          go_wp2_with fail
          refine KR.out.mono ?_
          rintro r w7 ⟨⟨vq, rfl, hQ⟩, B⟩
          have KS0 := hid (refSame17 w7 vp vq R R (HP6.out.below B (Nat.le_refl _)) hQ.vw (by omega) (by omega))
          rw [decide_eq_true rfl] at KS0
          have HG7 := hid (HG6.out.blw B)
          have HX7 := hid (HX6.out.below B HX6.out.lt)
          have HO7 := hid (HO6.out.below B (Nat.le_refl _))
          have HC7 := hid (HC6.out.below B HC6.out.lt)
          have HB7 := hid (below_then HB6.out B)
          clear B hQ c1 c2 d0 d1 d2 d3 HG6 HX6 HO6 HC6 HB6 HY6 KR HP6
          go_wp2_with fail
          refine KS0.out.mono ?_
          rintro r w8 ⟨rfl, m8, hw8⟩
          have B : Below w7.heap.size w7 w8 := by rw [hw8]; exact below_drewN _ _
          have HG8 := hid (HG7.out.blw B)
          have HX8 := hid (HX7.out.below B HX7.out.lt)
          have HO8 := hid (HO7.out.below B (Nat.le_refl _))
          have HC8 := hid (HC7.out.below B HC7.out.lt)
          have HB8 := hid (below_then HB7.out B)
          clear B hw8 HG7 HX7 HO7 HC7 HB7 KS0
          go_wp2_with (go_at_call 12; refine (num17_any _ _).mono ?_; rintro r w' ⟨rfl, rfl⟩)
          have KC := hid (fun W (h : Below w8.heap.size w8 W) => (gconfig_any (HG8.out.blw h) (by rw [Hps.out]; omega)).mono fun r w' h' => (⟨h'.1, below_then h h'.2⟩ : _ ∧ Below w8.heap.size w8 w'))
          have KP := hid (fun W (h : Below w8.heap.size w8 W) => (gpoints_any (HG8.out.blw h) (by rw [Hps.out]; omega) (by rw [Hps.out]; omega)).mono fun r w' h' => (⟨h'.1, below_then h h'.2⟩ : _ ∧ Below w8.heap.size w8 w'))
          have HS := hid (show ∀ W, Below w8.heap.size w8 W → W.cell? ⟨w.heap.size, 0, none⟩ = some (.int .i64 b) ∧ W.cell? ⟨w.heap.size, 1, none⟩ = some (.int .i64 t) ∧ W.cell? ⟨w.heap.size, 2, none⟩ = some (.int .i64 l) ∧ W.cell? ⟨w2.heap.size, 3, none⟩ = some (.slice (some ⟨rb, 0, none⟩) N cap) from fun W h => ⟨(HC8.out.below h HC8.out.lt).cell 0, (HC8.out.below h HC8.out.lt).cell 1, (HC8.out.below h HC8.out.lt).cell 2, (HX8.out.below h HX8.out.lt).cell 3⟩)
          have B0 : Below w8.heap.size w8 w8.drew := below_drewN w8 1
          have KS := hid (fun W vz (h : Below w8.heap.size w8 W) (hz : PVw W vz ps) => (refSame17 W vz _ ps ps hz (HO8.out.vw.below h (Nat.le_refl _)) (by rw [Hps.out]; omega) (by rw [Hps.out]; omega)).mono fun r w' h' => (⟨h'.1.trans (by rw [decide_eq_true rfl]), below_then h (by obtain ⟨m', e⟩ := h'.2; rw [e]; exact below_drewN _ _)⟩ : r = .returned (.bool true) ∧ Below w8.heap.size w8 w'))
          go_region_held3 (fun W => W.cell? ⟨w.heap.size, 0, none⟩ = some (.int .i64 b) ∧ W.cell? ⟨w.heap.size, 1, none⟩ = some (.int .i64 t) ∧ W.cell? ⟨w.heap.size, 2, none⟩ = some (.int .i64 l) ∧ W.cell? ⟨w2.heap.size, 3, none⟩ = some (.slice (some ⟨rb, 0, none⟩) N cap)) (exact HS.out _ (by assumption))
            ((first
              | (go_at_call 32; (with_reducible refine (KC.out _ (by assumption)).mono ?_); rintro r wa ⟨rfl, Ba⟩)
              | (go_at_call 24; (with_reducible refine (KP.out _ (by assumption)).mono ?_); rintro r wp ⟨⟨vz, rfl, hz⟩, Bp⟩; have HZ := hid hz.vw; clear hz)
              | (go_at_call 26; (with_reducible refine (KS.out _ _ (by assumption) HZ.out).mono ?_); rintro r ws ⟨rfl, Bs⟩)))
          all_goals
            have HG9 := hid (HG8.out.blw Bs)
            have HX9 := hid (HX8.out.below Bs HX8.out.lt)
            have HO9 := hid (HO8.out.below Bs (Nat.le_refl _))
            have HC9 := hid (HC8.out.below Bs HC8.out.lt)
            have HB9 := hid (below_then HB8.out Bs)
            clear Ba Bp Bs B0
            go_wp2
            go_roundw
            case rel => exact ⟨k + 1, by omega, by go_num, q, rb, cap, ps, Hps.out, HG9.out, HX9.out, HO9.out, HC9.out, HB9.out, by omega, by omega, by omega, by omega, by omega, by omega⟩
            case measure => simp [intOf]; omega
        · obtain ⟨wo, hwo⟩ : ∃ wo, wo = wr := ⟨_, rfl⟩
          subst hwo
          have d3 : wo.cell? ⟨w2.heap.size, 3, none⟩ = some (.slice (some ⟨rb, 0, none⟩) N cap) := HX.out.cell 3
          have l1 : w2.heap.size < wo.heap.size := hhl
          have l2 : w2.heap.size < wo.heap.size + 1 := by omega
          have n1 : ¬ w2.heap.size = wo.heap.size := by omega
          have n2 : ¬ w2.heap.size = wo.heap.size + 1 := by omega
          have hown : PVw (wo.alloc (.cells #[.int .i64 2, .int .i64 a1, .int .i64 a2, .int .i64 a3, .int .i64 a4] 64)) (.slice (some ⟨rb, 0, none⟩) N cap) ps := (HO.out.fr (Fr.alloc (fun _ => False) wo (.cells #[.int .i64 2, .int .i64 a1, .int .i64 a2, .int .i64 a3, .int .i64 a4] 64)) (fun _ _ h => h)).vw
          have HOw := hid hown
          clear hown
          go_wp2_with (at_builtin; refine wpList_copy_list2 rfl pelem (.tmp 122) (.tmp 124) rfl (by rw [World.size_alloc]; rfl) _ ps rfl HOw.out (by rw [Hps.out]; omega) ?_; intro vo w6 O6 B6; obtain ⟨pb, pc, rfl⟩ := O6.shape N Hps.out (by omega); have HY6 := hid (Blk.below (Blk.new wo 64 #[.int .i64 2, .int .i64 a1, .int .i64 a2, .int .i64 a3, .int .i64 a4]) B6 (by simp)); have HP6 := hid O6; have hpb := O6.block (g := pb) rfl; have hB6 := up_alloc B6; have B := hid hB6; clear O6 B6 hB6)
          rw [World.size_alloc] at hpb
          have HG6 := hid (HG.out.blw B.out)
          have HX6 := hid (HX.out.below B.out HX.out.lt)
          have HO6 := hid (HO.out.below B.out (Nat.le_refl _))
          have HC6 := hid (HC.out.below B.out HC.out.lt)
          have HB6 := hid (below_then HB.out B.out)
          have h56 : wo.heap.size < w6.heap.size := HY6.out.lt
          have hpc := HP6.out.capN
          clear B HG HX HO HC HB HOw x0 x1 x2 x3 x4 d3 l1 l2 n1 n2
          obtain ⟨N1, hN1'⟩ : ∃ N1, N1 + 1 = N := ⟨N - 1, by omega⟩
          by_cases hev : a3.tmod 2 = 0
          · have hev2 : ((a3.tmod 2 : Int) == 0) = true := by rw [beq_iff_eq]; exact hev
            have hev3 : ((a3.tmod 2 : Int) != 0) = false := by rw [bne, hev2]; rfl
            have Hev := hid hev
            clear hev
            obtain ⟨H, hH⟩ : ∃ H, H = N / 2 := ⟨_, rfl⟩
            have hH2 : (N : Int).tdiv 2 = (H : Int) := by rw [Int.tdiv_eq_ediv_of_nonneg (by omega)]; omega
            have hHw : IntKind.i64.wrap (H : Int) = (H : Int) := IntWalk.i64_in _ (by omega)
            go_wp2
            go_loopw [19] (fun i wr => ∃ m : Nat, m ≤ H ∧ i = .int .i64 m ∧ (∃ L : List Pt, L.length = N ∧ POwn wr (wo.heap.size + 1) 53 (.slice (some ⟨pb, 0, none⟩) N pc) L) ∧ Fr (fun j => j = pb) w6 wr) (fun i _ => H - (intOf i).toNat)
            case atStart => exact ⟨0, Nat.zero_le _, rfl, ⟨ps, Hps.out, by have := HP6.out; rw [World.size_alloc] at this; exact this⟩, Fr.refl _ _⟩
            case round =>
              obtain ⟨m, hm, rfl, ⟨L, hL, hO⟩, hF⟩ := hrel
              have e3 : wr.cell? ⟨wo.heap.size, 3, none⟩ = some (.int .i64 a3) := (HY6.out.fr hF (by omega)).cell 3
              by_cases hlm : m < H
              · obtain ⟨e, he⟩ : ∃ e, e + m = N1 := ⟨N1 - m, by omega⟩
                have hme : ¬ m = e := by omega
                have hem : ¬ e = m := by omega
                have heN : e < N := by omega
                have hmN : m < N := by omega
                have s1 : IntKind.i64.wrap ((N : Int) - 1) = (N1 : Int) := by rw [IntWalk.i64_in _ (by omega)]; omega
                have s1' : (N : Int) - 1 = (N1 : Int) := by omega
                have s2 : IntKind.i64.wrap ((N1 : Int) - (m : Int)) = (e : Int) := by rw [IntWalk.i64_in _ (by omega)]; omega
                have s2' : (N1 : Int) - (m : Int) = (e : Int) := by omega
                obtain ⟨k0, k1⟩ := hO.cells (i := m) (by omega)
                obtain ⟨k2, k3⟩ := hO.cells (i := e) (by omega)
                have hst := hid (fun (a c : Pt) => (hO.stored m a.1 a.2).stored e c.1 c.2)
                have z0 := hO.free (m * 2)
                have z1 := hO.free (m * 2 + 1)
                have z2 := hO.free (e * 2)
                have z3 := hO.free (e * 2 + 1)
                generalize L.getD m (0, 0) = pm at *
                generalize L.getD e (0, 0) = pe at *
                obtain ⟨mx, my⟩ := pm
                obtain ⟨ex, ey⟩ := pe
                dsimp only at k0 k1 k2 k3
                have HF := hid hF
                have HL := hid hL
                clear hO hF hL
                go_wp2
                go_region
                all_goals
                  generalize hW : World.drew _ = w9
                  have F9 : Fr (fun j => j = pb) wr w9 := by rw [← hW]; exact (((Fr.setCell (S := fun j => j = pb) _ ⟨pb, m * 2, none⟩ _ rfl).trans (Fr.setCell (S := fun j => j = pb) _ ⟨pb, m * 2 + 1, none⟩ _ rfl)).trans ((Fr.setCell (S := fun j => j = pb) _ ⟨pb, e * 2, none⟩ _ rfl).trans (Fr.setCell (S := fun j => j = pb) _ ⟨pb, e * 2 + 1, none⟩ _ rfl))).trans (Fr.drew _ _)
                  have HO9 := hid (show POwn w9 (wo.heap.size + 1) 53 (.slice (some ⟨pb, 0, none⟩) N pc) ((L.set m (ex, ey)).set e (mx, my)) by rw [← hW]; exact (hst.out (ex, ey) (mx, my)).fr (Fr.drew (fun _ => False) _) (fun _ _ h => h))
                  have HF9 := hid (HF.out.trans F9)
                  clear hW F9 k0 k1 k2 k3 z0 z1 z2 z3 e3 s1 s1' s2 s2' hst
                  go_wp2
                  go_roundw
                  case rel => exact ⟨m + 1, by omega, by go_num, ⟨_, by rw [List.length_set, List.length_set]; exact HL.out, HO9.out⟩, HF9.out⟩
                  case measure => simp [intOf]; omega
              · obtain rfl : m = H := by omega
                obtain ⟨w7, hw7⟩ : ∃ w7, w7 = wr := ⟨_, rfl⟩
                subst hw7
                have HG7 := hid (HG6.out.fr hF (by omega) (by omega))
                have HX7 := hid (HX6.out.fr hF (by omega))
                have HO7 := hid (HO6.out.fr hF (fun g2 e2 => by simp [Value.ownBlock] at e2; omega))
                have HC7 := hid (HC6.out.fr hF (by omega))
                have HB7 := hid (HB6.out.trans (hF.below HB6.out.size (fun j hj e => by omega)))
                have HY7 := hid (HY6.out.fr hF (by omega))
                have HP7 := hid hO
                have HL := hid hL
                have h67 : w6.heap.size ≤ w7.heap.size := hF.size
                have hpb7 := (hO.block (g := pb) rfl).2
                have KR := hid (rload_ok b t l (some ⟨rb, 0, none⟩) N cap (.slice (some ⟨pb, 0, none⟩) N pc) L w7 hO.vw hL (by omega) (by omega))
                clear hO hF hL HG6 HX6 HO6 HC6 HB6 HY6 HP6 e3
                have e3 : w7.cell? ⟨wo.heap.size, 3, none⟩ = some (.int .i64 a3) := HY7.out.cell 3
                have d0 : w7.cell? ⟨w2.heap.size, 0, none⟩ = some (.int .i64 b) := HX7.out.cell 0
                have d1 : w7.cell? ⟨w2.heap.size, 1, none⟩ = some (.int .i64 t) := HX7.out.cell 1
                have d2 : w7.cell? ⟨w2.heap.size, 2, none⟩ = some (.int .i64 l) := HX7.out.cell 2
                have d3 : w7.cell? ⟨w2.heap.size, 3, none⟩ = some (.slice (some ⟨rb, 0, none⟩) N cap) := HX7.out.cell 3
                go_wp2_with fail
                refine KR.out.mono ?_
                rintro r w8 ⟨⟨q2, cap2, rfl, hq2, hO2⟩, B⟩
                have HO8 := hid hO2
                have hq2l := (hO2.block (g := q2) rfl).2
                have HG8 := hid (HG7.out.blw B)
                have HX8 := hid (HX7.out.below B HX7.out.lt)
                have HC8 := hid (HC7.out.below B HC7.out.lt)
                have HB8 := hid (below_then HB7.out B)
                have HY8 := hid (HY7.out.below B HY7.out.lt)
                have HP8 := hid (HP7.out.below B (Nat.le_refl _))
                have h78 : w7.heap.size ≤ w8.heap.size := B.size
                clear B hO2 e3 d0 d1 d2 d3 HG7 HX7 HO7 HC7 HB7 HY7 HP7 KR
                have d0 : w8.cell? ⟨w2.heap.size, 0, none⟩ = some (.int .i64 b) := HX8.out.cell 0
                have d1 : w8.cell? ⟨w2.heap.size, 1, none⟩ = some (.int .i64 t) := HX8.out.cell 1
                have d2 : w8.cell? ⟨w2.heap.size, 2, none⟩ = some (.int .i64 l) := HX8.out.cell 2
                have d3 : w8.cell? ⟨w2.heap.size, 3, none⟩ = some (.slice (some ⟨rb, 0, none⟩) N cap) := HX8.out.cell 3
                have z0 := HX8.out.frozen 0
                have z1 := HX8.out.frozen 1
                have z2 := HX8.out.frozen 2
                have z3 := HX8.out.frozen 3
                have n1 : ¬ wo.heap.size = w2.heap.size := by omega
                have n2 : ¬ w2.heap.size = w8.heap.size := by omega
                have l1 : w2.heap.size < w8.heap.size := by omega
                have hq2h : q2 ≠ w2.heap.size := by omega
                go_wp2_with fail
                clear d0 d1 d2 d3 z0 z1 z2 z3
                have h9 := rbox_set HX8.out (v0 := .int .i64 b) (v1 := .int .i64 t) (v2 := .int .i64 l) (v3 := .slice (some ⟨q2, 0, none⟩) N cap2) rfl
                generalize hW : World.setCell _ _ _ = v9 at h9 ⊢
                generalize hW2 : World.alloc _ _ = w9
                have F0 : Fr (fun j => j = w2.heap.size) v9 w9 := by rw [← hW2]; exact Fr.alloc _ _ _
                have F := h9.2.trans F0
                have HX9 := hid (h9.1.fr (show Fr (fun _ => False) v9 w9 by rw [← hW2]; exact Fr.alloc _ _ _) (fun h => h))
                have hsz9 : w8.heap.size ≤ w9.heap.size := F.size
                clear hW2 F0
                have HG9 := hid (HG8.out.fr F (by omega) (by omega))
                have HC9 := hid (HC8.out.fr F (by omega))
                have HB9 := hid (HB8.out.trans (F.below HB8.out.size (fun j hj e => by omega)))
                have HY9 := hid (HY8.out.fr F (by omega))
                have HP9 := hid (HP8.out.fr F (fun g2 e2 => by have := (HP8.out.block e2); omega))
                have HO9 := hid (HO8.out.fr F (fun g2 e2 => by have := (HO8.out.block e2); simp [Value.ownBlock] at e2; omega))
                clear hW F h9 HG8 HX8 HC8 HB8 HY8 HP8 HO8
                have KL := hid (gload_ok HG9.out (by rw [Hps.out]; omega) (by rw [Hps.out]; omega) _ L HP9.out.vw (by rw [HL.out, Hps.out]))
                refine KL.out.mono ?_
                rintro r w10 ⟨⟨rfl, q3, hq3, hG10⟩, F⟩
                have HG10 := hid hG10
                have HX10 := hid (HX9.out.fr F (by omega))
                have HO10 := hid (HO9.out.fr F (fun g2 e2 => by simp [Value.ownBlock] at e2; omega))
                have HC10 := hid (HC9.out.fr F (by omega))
                have HB10 := hid (HB9.out.trans (F.below HB9.out.size (fun j hj e => by omega)))
                have hq9 := (HO9.out.block (g := q2) rfl).2
                have hx9 := HX9.out.lt
                clear F hG10 HG9 HX9 HO9 HC9 HB9 HY9 HP9 KL
                go_wp2_with (go_at_call 12; refine (num17_any _ _).mono ?_; rintro r w' ⟨rfl, rfl⟩)
                have KC := hid (fun W (h : Below w10.heap.size w10 W) => (gconfig_any (HG10.out.blw h) (by rw [HL.out]; omega)).mono fun r w' h' => (⟨h'.1, below_then h h'.2⟩ : _ ∧ Below w10.heap.size w10 w'))
                have KP := hid (fun W (h : Below w10.heap.size w10 W) => (gpoints_any (HG10.out.blw h) (by rw [HL.out]; omega) (by rw [HL.out]; omega)).mono fun r w' h' => (⟨h'.1, below_then h h'.2⟩ : _ ∧ Below w10.heap.size w10 w'))
                have HS := hid (show ∀ W, Below w10.heap.size w10 W → W.cell? ⟨w.heap.size, 0, none⟩ = some (.int .i64 b) ∧ W.cell? ⟨w.heap.size, 1, none⟩ = some (.int .i64 t) ∧ W.cell? ⟨w.heap.size, 2, none⟩ = some (.int .i64 l) ∧ W.cell? ⟨w2.heap.size, 3, none⟩ = some (.slice (some ⟨q2, 0, none⟩) N cap2) from fun W h => ⟨(HC10.out.below h HC10.out.lt).cell 0, (HC10.out.below h HC10.out.lt).cell 1, (HC10.out.below h HC10.out.lt).cell 2, (HX10.out.below h HX10.out.lt).cell 3⟩)
                have B0 : Below w10.heap.size w10 w10.drew := below_drewN w10 1
                have KS := hid (fun W vz (h : Below w10.heap.size w10 W) (hz : PVw W vz L) => (refSame17 W vz _ L L hz (HO10.out.vw.below h (Nat.le_refl _)) (by rw [HL.out]; omega) (by rw [HL.out]; omega)).mono fun r w' h' => (⟨h'.1.trans (by rw [decide_eq_true rfl]), below_then h (by obtain ⟨m', e⟩ := h'.2; rw [e]; exact below_drewN _ _)⟩ : r = .returned (.bool true) ∧ Below w10.heap.size w10 w'))
                go_region_held3 (fun W => W.cell? ⟨w.heap.size, 0, none⟩ = some (.int .i64 b) ∧ W.cell? ⟨w.heap.size, 1, none⟩ = some (.int .i64 t) ∧ W.cell? ⟨w.heap.size, 2, none⟩ = some (.int .i64 l) ∧ W.cell? ⟨w2.heap.size, 3, none⟩ = some (.slice (some ⟨q2, 0, none⟩) N cap2)) (exact HS.out _ (by assumption))
                  ((first
                    | (go_at_call 32; (with_reducible refine (KC.out _ (by assumption)).mono ?_); rintro r wa ⟨rfl, Ba⟩)
                    | (go_at_call 24; (with_reducible refine (KP.out _ (by assumption)).mono ?_); rintro r wp ⟨⟨vz, rfl, hz⟩, Bp⟩; have HZ := hid hz.vw; clear hz)
                    | (go_at_call 26; (with_reducible refine (KS.out _ _ (by assumption) HZ.out).mono ?_); rintro r ws ⟨rfl, Bs⟩)))
                all_goals
                  have HG9 := hid (HG10.out.blw Bs)
                  have HX9 := hid (HX10.out.below Bs HX10.out.lt)
                  have HO9 := hid (HO10.out.below Bs (Nat.le_refl _))
                  have HC9 := hid (HC10.out.below Bs HC10.out.lt)
                  have HB9 := hid (below_then HB10.out Bs)
                  clear Ba Bp Bs B0
                  go_wp2
                  go_roundw
                  case rel => exact ⟨k + 1, by omega, by go_num, q3, q2, cap2, L, HL.out, HG9.out, HX9.out, HO9.out, HC9.out, HB9.out, by omega, by omega, by omega, by omega, by omega, by omega⟩
                  case measure => simp [intOf]; omega
          · have hev2 : ((a3.tmod 2 : Int) == 0) = false := by rw [beq_eq_false_iff_ne]; exact hev
            have hev3 : ((a3.tmod 2 : Int) != 0) = true := by rw [bne, hev2]; rfl
            clear hev
            obtain ⟨H, hH⟩ : ∃ H, H = N / 2 := ⟨_, rfl⟩
            have hH2 : (N : Int).tdiv 2 = (H : Int) := by rw [Int.tdiv_eq_ediv_of_nonneg (by omega)]; omega
            have hHw : IntKind.i64.wrap (H : Int) = (H : Int) := IntWalk.i64_in _ (by omega)
            have hH0 : 0 < H := by omega
            have e3 : w6.cell? ⟨wo.heap.size, 3, none⟩ = some (.int .i64 a3) := HY6.out.cell 3
            have d0 : w6.cell? ⟨w2.heap.size, 0, none⟩ = some (.int .i64 b) := HX6.out.cell 0
            have d1 : w6.cell? ⟨w2.heap.size, 1, none⟩ = some (.int .i64 t) := HX6.out.cell 1
            have d2 : w6.cell? ⟨w2.heap.size, 2, none⟩ = some (.int .i64 l) := HX6.out.cell 2
            have d3 : w6.cell? ⟨w2.heap.size, 3, none⟩ = some (.slice (some ⟨rb, 0, none⟩) N cap) := HX6.out.cell 3
            go_wp2
            refine wp_loop_rounds 1 ?_
            rw [rounds_succ]
            go_wp2_with fail
            refine (rload_len b t l (some ⟨rb, 0, none⟩) N cap _ _ _ w6 (by omega)).mono ?_
            rintro r w7 ⟨rfl, B⟩
            have HG7 := hid (HG6.out.blw B)
            have HX7 := hid (HX6.out.below B HX6.out.lt)
            have HC7 := hid (HC6.out.below B HC6.out.lt)
            have HB7 := hid (below_then HB6.out B)
            have HY7 := hid (HY6.out.below B HY6.out.lt)
            have HO7 := hid (HO6.out.below B (Nat.le_refl _))
            have h78 : w6.heap.size ≤ w7.heap.size := B.size
            clear B e3 d0 d1 d2 d3 HG6 HX6 HO6 HC6 HB6 HY6 HP6
            have d0 : w7.cell? ⟨w2.heap.size, 0, none⟩ = some (.int .i64 b) := HX7.out.cell 0
            have d1 : w7.cell? ⟨w2.heap.size, 1, none⟩ = some (.int .i64 t) := HX7.out.cell 1
            have d2 : w7.cell? ⟨w2.heap.size, 2, none⟩ = some (.int .i64 l) := HX7.out.cell 2
            have d3 : w7.cell? ⟨w2.heap.size, 3, none⟩ = some (.slice (some ⟨rb, 0, none⟩) N cap) := HX7.out.cell 3
            have z0 := HX7.out.frozen 0
            have z1 := HX7.out.frozen 1
            have z2 := HX7.out.frozen 2
            have z3 := HX7.out.frozen 3
            have n1 : ¬ wo.heap.size = w2.heap.size := by omega
            have n2 : ¬ w2.heap.size = w7.heap.size := by omega
            have l1 : w2.heap.size < w7.heap.size := by omega
            go_wp2_with fail
            clear d0 d1 d2 d3 z0 z1 z2 z3
            have h8 := rbox_set HX7.out (v0 := .int .i64 b) (v1 := .int .i64 t) (v2 := .int .i64 l) (v3 := .slice (some ⟨rb, 0, none⟩) N cap) rfl
            generalize hW : World.setCell _ _ _ = v8 at h8 ⊢
            generalize hW2 : World.alloc _ _ = w8
            have F0 : Fr (fun j => j = w2.heap.size) v8 w8 := by rw [← hW2]; exact Fr.alloc _ _ _
            have F := h8.2.trans F0
            have HX8 := hid (h8.1.fr (show Fr (fun _ => False) v8 w8 by rw [← hW2]; exact Fr.alloc _ _ _) (fun h => h))
            have hsz8 : w7.heap.size ≤ w8.heap.size := F.size
            clear hW2 F0
            have HG8 := hid (HG7.out.fr F (by omega) (by omega))
            have HC8 := hid (HC7.out.fr F (by omega))
            have HB8 := hid (HB7.out.trans (F.below HB7.out.size (fun j hj e => by omega)))
            have HY8 := hid (HY7.out.fr F (by omega))
            have HO8 := hid (HO7.out.fr F (fun g2 e2 => by have := (HO7.out.block e2); simp [Value.ownBlock] at e2; omega))
            clear hW F h8 HG7 HX7 HC7 HB7 HY7 HO7
            refine (gload_len HG8.out (by rw [Hps.out]; omega) _ _ _ (by rw [Hps.out]; omega)).mono ?_
            rintro r w9 ⟨rfl, rfl⟩
            go_wp2_with (go_at_call 12; refine (num17_any _ _).mono ?_; rintro r w' ⟨rfl, rfl⟩)
            have KC := hid (fun W (h : Below w8.heap.size w8 W) => (gconfig_any (HG8.out.blw h) (by rw [Hps.out]; omega)).mono fun r w' h' => (⟨h'.1, below_then h h'.2⟩ : _ ∧ Below w8.heap.size w8 w'))
            have KP := hid (fun W (h : Below w8.heap.size w8 W) => (gpoints_any (HG8.out.blw h) (by rw [Hps.out]; omega) (by rw [Hps.out]; omega)).mono fun r w' h' => (⟨h'.1, below_then h h'.2⟩ : _ ∧ Below w8.heap.size w8 w'))
            have HS := hid (show ∀ W, Below w8.heap.size w8 W → W.cell? ⟨w.heap.size, 0, none⟩ = some (.int .i64 b) ∧ W.cell? ⟨w.heap.size, 1, none⟩ = some (.int .i64 t) ∧ W.cell? ⟨w.heap.size, 2, none⟩ = some (.int .i64 l) ∧ W.cell? ⟨w2.heap.size, 3, none⟩ = some (.slice (some ⟨rb, 0, none⟩) N cap) from fun W h => ⟨(HC8.out.below h HC8.out.lt).cell 0, (HC8.out.below h HC8.out.lt).cell 1, (HC8.out.below h HC8.out.lt).cell 2, (HX8.out.below h HX8.out.lt).cell 3⟩)
            have B0 : Below w8.heap.size w8 w8.drew := below_drewN w8 1
            have KS := hid (fun W vz (h : Below w8.heap.size w8 W) (hz : PVw W vz ps) => (refSame17 W vz _ ps ps hz (HO8.out.vw.below h (Nat.le_refl _)) (by rw [Hps.out]; omega) (by rw [Hps.out]; omega)).mono fun r w' h' => (⟨h'.1.trans (by rw [decide_eq_true rfl]), below_then h (by obtain ⟨m', e⟩ := h'.2; rw [e]; exact below_drewN _ _)⟩ : r = .returned (.bool true) ∧ Below w8.heap.size w8 w'))
            go_region_held3 (fun W => W.cell? ⟨w.heap.size, 0, none⟩ = some (.int .i64 b) ∧ W.cell? ⟨w.heap.size, 1, none⟩ = some (.int .i64 t) ∧ W.cell? ⟨w.heap.size, 2, none⟩ = some (.int .i64 l) ∧ W.cell? ⟨w2.heap.size, 3, none⟩ = some (.slice (some ⟨rb, 0, none⟩) N cap)) (exact HS.out _ (by assumption))
              ((first
                | (go_at_call 32; (with_reducible refine (KC.out _ (by assumption)).mono ?_); rintro r wa ⟨rfl, Ba⟩)
                | (go_at_call 24; (with_reducible refine (KP.out _ (by assumption)).mono ?_); rintro r wp ⟨⟨vz, rfl, hz⟩, Bp⟩; have HZ := hid hz.vw; clear hz)
                | (go_at_call 26; (with_reducible refine (KS.out _ _ (by assumption) HZ.out).mono ?_); rintro r ws ⟨rfl, Bs⟩)))
            all_goals
              have HG9 := hid (HG8.out.blw Bs)
              have HX9 := hid (HX8.out.below Bs HX8.out.lt)
              have HO9 := hid (HO8.out.below Bs (Nat.le_refl _))
              have HC9 := hid (HC8.out.below Bs HC8.out.lt)
              have HB9 := hid (below_then HB8.out Bs)
              clear Ba Bp Bs B0
              go_wp2
              go_roundw
              case rel => exact ⟨k + 1, by omega, by go_num, q, rb, cap, ps, Hps.out, HG9.out, HX9.out, HO9.out, HC9.out, HB9.out, by omega, by omega, by omega, by omega, by omega, by omega⟩
              case measure => simp [intOf]; omega
        · go_wp2_with fail
          generalize hW : World.alloc _ _ = w5
          have F : Fr (fun _ => False) wr w5 := by rw [← hW]; exact Fr.alloc _ _ _
          have HY5 := hid (show Blk w5 wr.heap.size 64 #[.int .i64 a0, .int .i64 a1, .int .i64 a2, .int .i64 a3, .int .i64 a4] by rw [← hW]; exact Blk.new wr _ _)
          have HG5 := hid (HG.out.fr F (fun h => h) (fun h => h))
          have HX5 := hid (HX.out.fr F (fun h => h))
          have HO5 := hid (HO.out.fr F (fun _ _ h => h))
          have HC5 := hid (HC.out.fr F (fun h => h))
          have HB5 := hid (HB.out.trans (F.below HB.out.size (fun _ _ h => h)))
          have h5 : wr.heap.size < w5.heap.size := HY5.out.lt
          clear hW F HG HX HO HC HB x0 x1 x2 x3 x4
          have c0 : w5.cell? ⟨wr.heap.size, 0, none⟩ = some (.int .i64 a0) := HY5.out.cell 0
          go_wp2
          clear c0
          have KC := hid (fun W (h : Below w5.heap.size w5 W) => (gconfig_any (HG5.out.blw h) (by rw [Hps.out]; omega)).mono fun r w' h' => (⟨h'.1, below_then h h'.2⟩ : _ ∧ Below w5.heap.size w5 w'))
          have KP := hid (fun W (h : Below w5.heap.size w5 W) => (gpoints_any (HG5.out.blw h) (by rw [Hps.out]; omega) (by rw [Hps.out]; omega)).mono fun r w' h' => (⟨h'.1, below_then h h'.2⟩ : _ ∧ Below w5.heap.size w5 w'))
          have HS := hid (show ∀ W, Below w5.heap.size w5 W → W.cell? ⟨w.heap.size, 0, none⟩ = some (.int .i64 b) ∧ W.cell? ⟨w.heap.size, 1, none⟩ = some (.int .i64 t) ∧ W.cell? ⟨w.heap.size, 2, none⟩ = some (.int .i64 l) ∧ W.cell? ⟨w2.heap.size, 3, none⟩ = some (.slice (some ⟨rb, 0, none⟩) N cap) from fun W h => ⟨(HC5.out.below h HC5.out.lt).cell 0, (HC5.out.below h HC5.out.lt).cell 1, (HC5.out.below h HC5.out.lt).cell 2, (HX5.out.below h HX5.out.lt).cell 3⟩)
          have B0 : Below w5.heap.size w5 w5.drew := below_drewN w5 1
          have KS := hid (fun W vz (h : Below w5.heap.size w5 W) (hz : PVw W vz ps) => (refSame17 W vz _ ps ps hz (HO5.out.vw.below h (Nat.le_refl _)) (by rw [Hps.out]; omega) (by rw [Hps.out]; omega)).mono fun r w' h' => (⟨h'.1.trans (by rw [decide_eq_true rfl]), below_then h (by obtain ⟨m', e⟩ := h'.2; rw [e]; exact below_drewN _ _)⟩ : r = .returned (.bool true) ∧ Below w5.heap.size w5 w'))
          go_region_held3 (fun W => W.cell? ⟨w.heap.size, 0, none⟩ = some (.int .i64 b) ∧ W.cell? ⟨w.heap.size, 1, none⟩ = some (.int .i64 t) ∧ W.cell? ⟨w.heap.size, 2, none⟩ = some (.int .i64 l) ∧ W.cell? ⟨w2.heap.size, 3, none⟩ = some (.slice (some ⟨rb, 0, none⟩) N cap)) (exact HS.out _ (by assumption))
            ((first
              | (go_at_call 32; (with_reducible refine (KC.out _ (by assumption)).mono ?_); rintro r wa ⟨rfl, Ba⟩)
              | (go_at_call 24; (with_reducible refine (KP.out _ (by assumption)).mono ?_); rintro r wp ⟨⟨vz, rfl, hz⟩, Bp⟩; have HZ := hid hz.vw; clear hz)
              | (go_at_call 26; (with_reducible refine (KS.out _ _ (by assumption) HZ.out).mono ?_); rintro r ws ⟨rfl, Bs⟩)))
          all_goals
            have HG9 := hid (HG5.out.blw Bs)
            have HX9 := hid (HX5.out.below Bs HX5.out.lt)
            have HO9 := hid (HO5.out.below Bs (Nat.le_refl _))
            have HC9 := hid (HC5.out.below Bs HC5.out.lt)
            have HB9 := hid (below_then HB5.out Bs)
            clear Ba Bp Bs B0
            go_wp2
            go_roundw
            case rel => exact ⟨k + 1, by omega, by go_num, q, rb, cap, ps, Hps.out, HG9.out, HX9.out, HO9.out, HC9.out, HB9.out, by omega, by omega, by omega, by omega, by omega, by omega⟩
            case measure => simp [intOf]; omega
      · have HB9 := hid hB
        clear hG hX hO hC hB
        go_wp2_with fail
        refine (works17 _).mono ?_
        rintro r we ⟨rfl, B⟩
        go_wp2
        go_ret
        exact ⟨rfl, below_then HB9.out B⟩
end Go.Proofs.Ytighnjbcnfnpmaa

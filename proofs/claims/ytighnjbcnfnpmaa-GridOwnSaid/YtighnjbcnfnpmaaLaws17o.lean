/- userplanelaw17.GridOwn. -/
import Derived.Test.YtighnjbcnfnpmaaGriL
namespace Go.Proofs.Ytighnjbcnfnpmaa
open Go.RowKit Go.Shelf
set_option linter.unusedVariables false
attribute [local go_sem ↓] Go.wp_at_zero Go.wp_at_succ
set_option maxRecDepth 100000 in
set_option maxHeartbeats 8000000 in
theorem law_GridOwn (b t l n seed : Int) (wb : (Lit.int .i64 b).wf = true) (wt : (Lit.int .i64 t).wf = true) (wl : (Lit.int .i64 l).wf = true) (wn : (Lit.int .i64 n).wf = true) (ws : (Lit.int .i64 seed).wf = true) (w : World) :
    Calls Try.prog 6 #[CV b t l, .int .i64 n, .int .i64 seed] w fun e w' => e = .returned (.bool true) ∧ Below w.heap.size w w' := by
  cases hv : Gr.vld b t l with
  | false =>
    have K := hid (gnew_bad b t l hv)
    clear hv
    go_enter Try.func6, Try.ntmps6
    go_wp2_with fail
    refine (K.out _).mono ?_
    rintro r w1 ⟨rfl, B1⟩
    go_wp2_with (first
      | (go_at_call 12; refine (num17_any _ _).mono ?_; rintro r w' ⟨rfl, rfl⟩)
      | (go_at_call 15; refine (works17 _).mono ?_; rintro r w4 ⟨rfl, B⟩))
    go_ret
    exact ⟨rfl, below_then (up_alloc B1) B⟩
  | true =>
    have K := hid (gnew_ok b t l hv)
    have Hv := hid hv
    have hc := Gr.vld_iff.1 hv
    have b0 := hc.b0
    have b1 := hc.b1
    have w0f := hid (show (Lit.int .i64 0).wf = true by decide)
    have Wb := hid wb
    have hok : Gr.datOk b t l 0 b = true := by simp [Gr.datOk, hv]; omega
    have hpe := hid (show ∀ k, Gr.putE b t l 0 b k = 0 ∨ Gr.putE b t l 0 b k = 4 from fun k => by unfold Gr.putE; rw [if_pos hok]; split <;> simp)
    have hde := hid (show Gr.datE b t l 0 b = 0 from if_pos hok)
    have hnl := hid (Gr.newP_len b t l)
    have hpl := hid (show ∀ P, (Gr.putS b t l (Gr.newP b t l) 0 b P).length = (168 * b).toNat from fun P => by rw [putS_len]; exact Gr.newP_len b t l)
    have Kp := hid (fun w => points_any n seed w)
    clear hv hc hok wb wt wl wn ws
    go_enter Try.func6, Try.ntmps6
    go_wp2_with fail
    refine (K.out _).mono ?_
    rintro r w1 ⟨⟨g, q, rfl, hg, hq, hG⟩, B⟩
    have HC1 := hid (show Blk w1 w.heap.size 23 #[.int .i64 b, .int .i64 t, .int .i64 l] from Blk.below (Blk.new w _ _) B (by simp))
    have HB1 := hid (up_alloc B)
    have HG1 := hid hG
    have hg2 : w.heap.size < g := by simp at hg; omega
    have hq2 : w.heap.size < q := by simp at hq; omega
    have hgl1 := hG.lt
    clear B hG hg hq
    go_wp2_with (go_at_call 12; refine (num17_any _ _).mono ?_; rintro r w' ⟨rfl, rfl⟩)
    refine (Kp.out _).mono ?_
    rintro r w2 ⟨⟨vp, P, rfl, hPl, hP⟩, B⟩
    have hPb : P.length ≤ 4000 := by rw [hPl]; split <;> (try split) <;> omega
    clear hPl
    have HC2 := hid (HC1.out.below B HC1.out.lt)
    have HB2 := hid (below_then HB1.out B)
    have HG2 := hid (HG1.out.blw B)
    have h12 : w1.heap.size ≤ w2.heap.size := B.size
    obtain ⟨ap, cp, rfl⟩ := hP.is_slice
    have HP2 := hid hP
    have c0 : w2.cell? ⟨w.heap.size, 0, none⟩ = some (.int .i64 b) := HC2.out.cell 0
    have KP := hid (gput_any HG2.out Hv.out hnl.out 0 b w0f.out Wb.out _ P HP2.out.vw (fun b' off n' c' e => by cases e; have := (HP2.out.block (g := b') rfl).1; omega))
    have HpB := hid (show ∀ j, (Value.slice ap P.length cp).ownBlock = some j → w1.heap.size ≤ j ∧ j < w2.heap.size from fun j e => HP2.out.block e)
    clear HC1 HB1 HG1 B hP
    go_wp2_with fail
    refine KP.out.mono ?_
    rintro r w3 ⟨rfl, hG, F⟩
    have HG3 := hid hG
    have HC3 := hid (HC2.out.fr F (by omega))
    have HB3 := hid (HB2.out.trans (F.below HB2.out.size (fun j hj e => by omega)))
    have HP3 := hid (HP2.out.fr F (fun g' e => by have := (HpB.out g' e).1; omega))
    have h23 : w2.heap.size ≤ w3.heap.size := F.size
    have hpe1 := hid (hpe.out P.length)
    generalize Gr.putE b t l 0 b P.length = er at *
    have hQl := hid (hpl.out P)
    generalize Gr.putS b t l (Gr.newP b t l) 0 b P = Q at *
    clear HC2 HB2 HG2 HP2 KP F hG c0
    have KQ := hid (gpoints_any HG3.out (by rw [hQl.out]; omega) (by rw [hQl.out]; omega))
    go_wp2_with fail
    refine KQ.out.mono ?_
    rintro r w4 ⟨⟨vb, rfl, hV⟩, B⟩
    obtain ⟨ab, cb, rfl⟩ := hV.is_slice
    have HBf4 := hid hV
    have HG4 := hid (HG3.out.blw B)
    have HC4 := hid (HC3.out.below B HC3.out.lt)
    have HB4 := hid (below_then HB3.out B)
    have HP4 := hid (HP3.out.below B (Nat.le_refl _))
    have h34 : w3.heap.size ≤ w4.heap.size := B.size
    have hgl4 := HG4.out.lt
    clear B hV HG3 HC3 HB3 HP3 KQ
    go_wp2
    go_loopw [12] (fun i wr => ∃ k : Nat, k ≤ P.length ∧ i = .int .i64 k ∧ (∃ L : List Pt, L.length = P.length ∧ POwn wr w1.heap.size 53 (Value.slice ap P.length cp) L) ∧ Fr (fun j => (Value.slice ap P.length cp).ownBlock = some j) w4 wr) (fun i _ => P.length - (intOf i).toNat)
    case atStart => exact ⟨0, Nat.zero_le _, rfl, ⟨_, rfl, HP4.out⟩, Fr.refl _ _⟩
    case round =>
      obtain ⟨k, hk, rfl, ⟨L, hL, hown⟩, hF⟩ := hrel
      by_cases hlt : k < P.length
      · obtain ⟨g4, cap4, e4⟩ := hown.shape P.length hL (by omega)
        have hst := hid (fun x => hown.sto0 e4 k x)
        cases e4
        obtain ⟨k0, k1⟩ := hown.cells (i := k) (by omega)
        have z0 := hown.free (k * 2)
        have z1 := hown.free (k * 2 + 1)
        generalize L.getD k (0, 0) = p0 at *
        obtain ⟨px, py⟩ := p0
        dsimp only at k0 k1
        have HF := hid hF
        have HL := hid hL
        have hkb : k ≤ 10000000 := by first | omega | (have := hQl.out; omega)
        clear hown hF hL
        go_wp2
        have F3 := hid (fun u => (Fr.setCell (S := fun j => (Value.slice (some ⟨g4, 0, none⟩) P.length cp).ownBlock = some j) wr ⟨g4, k * 2, none⟩ u rfl))
        go_roundw
        case rel =>
          obtain ⟨ys, hy1, hy2⟩ := hst.out _
          exact ⟨k + 1, by omega, by go_num, ⟨ys, by rw [hy1]; exact HL.out, hy2⟩, HF.out.trans (F3.out _)⟩
        case measure => simp [intOf]; omega
      · obtain rfl : k = P.length := by omega
        obtain ⟨w5, hw5⟩ : ∃ wz, wz = wr := ⟨_, rfl⟩
        subst hw5
        have hsLw5 : w4.heap.size ≤ w5.heap.size := hF.size
        have HG5 := hid (HG4.out.fr hF (fun e => by have := (HpB.out _ e); omega) (fun e => by have := (HpB.out _ e); omega))
        have HC5 := hid (HC4.out.fr hF (fun e => by have := (HpB.out _ e); omega))
        have HB5 := hid (HB4.out.trans (hF.below HB4.out.size (fun j hj e => by have := (HpB.out _ e); omega)))
        have HBf5 := hid (HBf4.out.fr hF (fun g2 e2 e => by have := (HpB.out _ e); have := (HBf4.out.block e2); omega))
        clear hown hF hL
        have c0 : w5.cell? ⟨w.heap.size, 0, none⟩ = some (.int .i64 b) := HC5.out.cell 0
        have KG := hid (gget_any HG5.out Hv.out hQl.out 0 b w0f.out Wb.out)
        rw [hde.out] at KG
        go_wp2_with fail
        refine KG.out.mono ?_
        rintro r w6 ⟨⟨vq, rfl, hV⟩, B⟩
        obtain ⟨aq, cq, rfl⟩ := hV.is_slice
        have HQ6 := hid hV
        have HG6 := hid (HG5.out.blw B)
        have HC6 := hid (HC5.out.below B HC5.out.lt)
        have HB6 := hid (below_then HB5.out B)
        have HBf6 := hid (HBf5.out.below B (Nat.le_refl _))
        have h56 : w5.heap.size ≤ w6.heap.size := B.size
        have hgl5 := HG5.out.lt
        have hRb : (Gr.getP Q (Gr.datL b t l 0 b)).length ≤ 100000 := by rw [Gr.getP_len]; have := Gr.dat_len b t l 0 b; omega
        generalize Gr.getP Q (Gr.datL b t l 0 b) = R at *
        have HqB := hid (show ∀ j, (Value.slice aq R.length cq).ownBlock = some j → w5.heap.size ≤ j ∧ j < w6.heap.size from fun j e => HQ6.out.block e)
        have HfB := hid (show ∀ j, (Value.slice ab Q.length cb).ownBlock = some j → w3.heap.size ≤ j ∧ j < w5.heap.size from fun j e => HBf5.out.block e)
        clear B hV HG5 HC5 HB5 HBf5 KG c0 HG4 HC4 HB4 HBf4 HP4
        go_wp2
        go_loopw [15] (fun i wr => ∃ k : Nat, k ≤ R.length ∧ i = .int .i64 k ∧ (∃ L : List Pt, L.length = R.length ∧ POwn wr w5.heap.size 53 (Value.slice aq R.length cq) L) ∧ Fr (fun j => (Value.slice aq R.length cq).ownBlock = some j) w6 wr) (fun i _ => R.length - (intOf i).toNat)
        case atStart => exact ⟨0, Nat.zero_le _, rfl, ⟨_, rfl, HQ6.out⟩, Fr.refl _ _⟩
        case round =>
          obtain ⟨k, hk, rfl, ⟨L, hL, hown⟩, hF⟩ := hrel
          by_cases hlt : k < R.length
          · obtain ⟨g4, cap4, e4⟩ := hown.shape R.length hL (by omega)
            have hst := hid (fun x => hown.sto1 e4 k x)
            cases e4
            obtain ⟨k0, k1⟩ := hown.cells (i := k) (by omega)
            have z0 := hown.free (k * 2)
            have z1 := hown.free (k * 2 + 1)
            generalize L.getD k (0, 0) = p0 at *
            obtain ⟨px, py⟩ := p0
            dsimp only at k0 k1
            have HF := hid hF
            have HL := hid hL
            have hkb : k ≤ 10000000 := by first | omega | (have := hQl.out; omega)
            clear hown hF hL
            go_wp2
            have F3 := hid (fun u => (Fr.setCell (S := fun j => (Value.slice (some ⟨g4, 0, none⟩) R.length cq).ownBlock = some j) wr ⟨g4, k * 2 + 1, none⟩ u rfl))
            go_roundw
            case rel =>
              obtain ⟨ys, hy1, hy2⟩ := hst.out _
              exact ⟨k + 1, by omega, by go_num, ⟨ys, by rw [hy1]; exact HL.out, hy2⟩, HF.out.trans (F3.out _)⟩
            case measure => simp [intOf]; omega
          · obtain rfl : k = R.length := by omega
            obtain ⟨w7, hw7⟩ : ∃ wz, wz = wr := ⟨_, rfl⟩
            subst hw7
            have hsLw7 : w6.heap.size ≤ w7.heap.size := hF.size
            have HG7 := hid (HG6.out.fr hF (fun e => by have := (HqB.out _ e); omega) (fun e => by have := (HqB.out _ e); omega))
            have HC7 := hid (HC6.out.fr hF (fun e => by have := (HqB.out _ e); omega))
            have HB7 := hid (HB6.out.trans (hF.below HB6.out.size (fun j hj e => by have := (HqB.out _ e); have := HB6.out.size; omega)))
            have HBf7 := hid (HBf6.out.fr hF (fun g2 e2 e => by have := (HqB.out _ e); have := (HfB.out _ e2); omega))
            clear hown hF hL
            have hgl7 := HG7.out.lt
            have KQ := hid (gpoints_any HG7.out (by rw [hQl.out]; omega) (by rw [hQl.out]; omega))
            go_wp2_with fail
            refine KQ.out.mono ?_
            rintro r w8 ⟨⟨va, rfl, hV⟩, B⟩
            obtain ⟨aa, ca, rfl⟩ := hV.is_slice
            have HA8 := hid hV
            have HG8 := hid (HG7.out.blw B)
            have HC8 := hid (HC7.out.below B HC7.out.lt)
            have HB8 := hid (below_then HB7.out B)
            have HBf8 := hid (HBf7.out.below B (Nat.le_refl _))
            have h78 : w7.heap.size ≤ w8.heap.size := B.size
            have HaB := hid (show ∀ j, (Value.slice aa Q.length ca).ownBlock = some j → w7.heap.size ≤ j ∧ j < w8.heap.size from fun j e => HA8.out.block e)
            have KS := hid (refSame17 w8 _ _ Q Q HA8.out.vw HBf8.out.vw (by rw [hQl.out]; omega) (by rw [hQl.out]; omega))
            rw [decide_eq_true rfl] at KS
            clear B hV HG7 HC7 HB7 HBf7 KQ
            go_wp2_with fail
            refine KS.out.mono ?_
            rintro r w9 ⟨rfl, m9, hw9⟩
            have B : Below w8.heap.size w8 w9 := by rw [hw9]; exact below_drewN _ _
            have HA9 := hid (HA8.out.below B (Nat.le_refl _))
            have HG9 := hid (HG8.out.blw B)
            have HC9 := hid (HC8.out.below B HC8.out.lt)
            have HB9 := hid (below_then HB8.out B)
            have HBf9 := hid (HBf8.out.below B (Nat.le_refl _))
            have h89 : w8.heap.size ≤ w9.heap.size := B.size
            clear B hw9 HG8 HC8 HB8 HBf8 HA8 KS HG6 HC6 HB6 HBf6 HQ6
            go_wp2
            go_loopw [18] (fun i wr => ∃ k : Nat, k ≤ Q.length ∧ i = .int .i64 k ∧ (∃ L : List Pt, L.length = Q.length ∧ POwn wr w7.heap.size 53 (Value.slice aa Q.length ca) L) ∧ Fr (fun j => (Value.slice aa Q.length ca).ownBlock = some j) w9 wr) (fun i _ => Q.length - (intOf i).toNat)
            case atStart => exact ⟨0, Nat.zero_le _, rfl, ⟨_, rfl, HA9.out⟩, Fr.refl _ _⟩
            case round =>
              obtain ⟨k, hk, rfl, ⟨L, hL, hown⟩, hF⟩ := hrel
              by_cases hlt : k < Q.length
              · obtain ⟨g4, cap4, e4⟩ := hown.shape Q.length hL (by omega)
                have hst := hid (fun x => hown.sto0 e4 k x)
                cases e4
                obtain ⟨k0, k1⟩ := hown.cells (i := k) (by omega)
                have z0 := hown.free (k * 2)
                have z1 := hown.free (k * 2 + 1)
                generalize L.getD k (0, 0) = p0 at *
                obtain ⟨px, py⟩ := p0
                dsimp only at k0 k1
                have HF := hid hF
                have HL := hid hL
                have hkb : k ≤ 10000000 := by first | omega | (have := hQl.out; omega)
                clear hown hF hL
                go_wp2
                have F3 := hid (fun u => (Fr.setCell (S := fun j => (Value.slice (some ⟨g4, 0, none⟩) Q.length ca).ownBlock = some j) wr ⟨g4, k * 2, none⟩ u rfl))
                go_roundw
                case rel =>
                  obtain ⟨ys, hy1, hy2⟩ := hst.out _
                  exact ⟨k + 1, by omega, by go_num, ⟨ys, by rw [hy1]; exact HL.out, hy2⟩, HF.out.trans (F3.out _)⟩
                case measure => simp [intOf]; omega
              · obtain rfl : k = Q.length := by omega
                obtain ⟨w10, hw10⟩ : ∃ wz, wz = wr := ⟨_, rfl⟩
                subst hw10
                have hsLw10 : w9.heap.size ≤ w10.heap.size := hF.size
                have HG10 := hid (HG9.out.fr hF (fun e => by have := (HaB.out _ e); omega) (fun e => by have := (HaB.out _ e); omega))
                have HB10 := hid (HB9.out.trans (hF.below HB9.out.size (fun j hj e => by have := (HaB.out _ e); have := HB9.out.size; omega)))
                have HBf10 := hid (HBf9.out.fr hF (fun g2 e2 e => by have := (HaB.out _ e); have := (HfB.out _ e2); omega))
                clear hown hF hL
                have KQ := hid (gpoints_any HG10.out (by rw [hQl.out]; omega) (by rw [hQl.out]; omega))
                have hd0 : er = 0 ∨ er = 4 := hpe1.out
                rcases hd0 with rfl | rfl
                all_goals
                  go_wp2_with (go_at_call 12; refine (num17_any _ _).mono ?_; rintro r w' ⟨rfl, rfl⟩)
                  refine KQ.out.mono ?_
                  rintro r w11 ⟨⟨vz, rfl, hV⟩, B⟩
                  have HBf11 := hid (HBf10.out.below B (Nat.le_refl _))
                  have HB11 := hid (below_then HB10.out B)
                  have KS := hid (refSame17 w11 _ _ Q Q hV.vw HBf11.out.vw (by rw [hQl.out]; omega) (by rw [hQl.out]; omega))
                  rw [decide_eq_true rfl] at KS
                  clear B hV
                  go_wp2_with fail
                  refine KS.out.mono ?_
                  rintro r w12 ⟨rfl, m12, hw12⟩
                  have HB12 := hid (below_then HB11.out (show Below w11.heap.size w11 w12 by rw [hw12]; exact below_drewN _ _))
                  clear hw12
                  go_wp2_with fail
                  refine (works17 _).mono ?_
                  rintro r w13 ⟨rfl, B⟩
                  go_wp2
                  go_ret
                  exact ⟨rfl, below_then HB12.out B⟩
end Go.Proofs.Ytighnjbcnfnpmaa

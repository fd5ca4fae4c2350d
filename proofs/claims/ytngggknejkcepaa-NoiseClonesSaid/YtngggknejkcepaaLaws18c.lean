/- userplanelaw18.NoiseClones. -/
import Derived.Test.YtngggknejkcepaaLaws18a
namespace Go.Proofs.Ytngggknejkcepaa
open Go.RowKit Go.Shelf
set_option linter.unusedVariables false
attribute [local go_sem ↓] Go.wp_at_zero Go.wp_at_succ
/-- Soft at a slice that came in. -/
theorem soft_arg (w0 : World) (a : Option Addr) (c : Nat) (A : List Int) (HV : Vw w0 (.slice a A.length c) (A.map (Value.int .i64))) (hA : A.length ≤ 200) (f e s : Int) (hc : Ch f e s) (g y : Nat) (hg : w0.heap.size < g) (h0 : 0 < y) (hM : y < Noi.M) (w : World) (hB : Below w0.heap.size w0 w) (hN : NB w g y f e s) :
    Calls Try.prog 20 #[.pointer (some ⟨g, 0, none⟩), .slice a A.length c] w fun r w' => (∃ v', r = .returned (.tuple #[v', .int .i64 (Noi.sofE A)]) ∧ VwA w' w.heap.size v' ((Noi.sofL f e s y A).map (Value.int .i64))) ∧ NB w' g (Noi.sofX y A) f e s ∧ Fr (fun j => j = g) w w' :=
  soft_any w g y f e s _ A hc h0 hM hN (HV.below hB (Nat.le_refl _)) (fun q off n c' h hp => by
    obtain ⟨q', off', c'', h', hcell⟩ := vw_at' HV hp
    have := World.block_lt_of_cell? _ _ hcell
    dsimp only at this
    cases h; cases h'; omega) (by omega)
set_option maxRecDepth 100000 in
set_option maxHeartbeats 8000000 in
theorem law_NoiseClones (w : World) (f e s x : Int) (v1 : Value) (A : List Int) (v2 : Value) (B : List Int) (v3 : Value) (D : List Int) (wf : (Lit.int .i64 f).wf = true) (we : (Lit.int .i64 e).wf = true) (ws : (Lit.int .i64 s).wf = true) (wx : (Lit.int .u64 x).wf = true) (h1 : IntsIn .i64 w v1 A) (h2 : IntsIn .i64 w v2 B) (h3 : IntsIn .i64 w v3 D) :
    Calls Try.prog 8 #[.agg #[.int .i64 f, .int .i64 e, .int .i64 s], .int .u64 x, v1, v2, v3] w fun e w' => e = .returned (.bool true) ∧ Below w.heap.size w w' := by
  obtain ⟨x, rfl, hx⟩ := wf_u64' wx
  clear wx ws
  obtain ⟨hv1, hl1, -⟩ := h1
  obtain ⟨hv2, hl2, -⟩ := h2
  obtain ⟨hv3, hl3, -⟩ := h3
  have HV1 := hid hv1
  have HV2 := hid hv2
  have HV3 := hid hv3
  obtain ⟨a1, k1, rfl, _⟩ := hv1
  obtain ⟨a2, k2, rfl, _⟩ := hv2
  obtain ⟨a3, k3, rfl, _⟩ := hv3
  rw [List.length_map] at HV1 HV2 HV3 ⊢
  rw [List.length_map, List.length_map]
  have b1 : (decide (100 < (A.length : Int)) = true) ∨ (decide (100 < (A.length : Int)) = false ∧ A.length ≤ 100) := by
    by_cases h : 100 < A.length
    · left; simp; omega
    · right; simp; omega
  have b2 : (decide (100 < (B.length : Int)) = true) ∨ (decide (100 < (B.length : Int)) = false ∧ B.length ≤ 100) := by
    by_cases h : 100 < B.length
    · left; simp; omega
    · right; simp; omega
  have b3 : (decide (100 < (D.length : Int)) = true) ∨ (decide (100 < (D.length : Int)) = false ∧ D.length ≤ 100) := by
    by_cases h : 100 < D.length
    · left; simp; omega
    · right; simp; omega
  have hcd := ch_dec f e s
  have brief : ∀ (q : Bool) (P : Value) (R : Value), (∀ w, Calls Try.prog 10 #[.agg #[.int .i64 f, .int .i64 e, .int .i64 s], .int .u64 (x : Nat)] w fun r w' => (∃ (p' : Value) (f' e' s' : Int) (z : Nat), r = .returned (.tuple #[p', NV f' e' s' z, .bool q, .bool true])) ∧ Below w.heap.size w w') →
      (decide (100 < (A.length : Int)) = true ∨ (decide (100 < (A.length : Int)) = false ∧ decide (100 < (B.length : Int)) = true) ∨ (decide (100 < (A.length : Int)) = false ∧ decide (100 < (B.length : Int)) = false ∧ decide (100 < (D.length : Int)) = true) ∨ (decide (100 < (A.length : Int)) = false ∧ decide (100 < (B.length : Int)) = false ∧ decide (100 < (D.length : Int)) = false ∧ q = false)) →
      Calls Try.prog 8 #[.agg #[.int .i64 f, .int .i64 e, .int .i64 s], .int .u64 (x : Nat), .slice a1 A.length k1, .slice a2 B.length k2, .slice a3 D.length k3] w fun e w' => e = .returned (.bool true) ∧ Below w.heap.size w w' := by
    intro q _ _ hM hor
    have HM := hid hM
    clear hM wf we hx hl1 hl2 hl3 b1 b2 b3 hcd
    rcases hor with t1 | ⟨t1, t2⟩ | ⟨t1, t2, t3⟩ | ⟨t1, t2, t3, rfl⟩
    all_goals
      go_enter Try.func8, Try.ntmps8
      go_wp2_with fail
      refine (HM.out _).mono ?_
      rintro r w1 ⟨⟨p', f', e', s', z, rfl⟩, B1⟩
      have HB1 := hid (up_alloc B1)
      clear B1
      go_wp2_with (go_at_call 11; refine (works18 _).mono ?_; rintro r w2 ⟨rfl, B2⟩)
      go_ret
      exact ⟨rfl, below_then HB1.out ((below_alloc _ _).trans (B2.mono (by simp)))⟩
  rcases hcd with hc | hc
  · have hMade : ∀ w, Calls Try.prog 10 #[.agg #[.int .i64 f, .int .i64 e, .int .i64 s], .int .u64 (x : Nat)] w fun r w' => (∃ (p' : Value) (f' e' s' : Int) (z : Nat), r = .returned (.tuple #[p', NV f' e' s' z, .bool true, .bool true])) ∧ Below w.heap.size w w' :=
      fun w => (made_ok w f e s x hc hx).mono fun r w' ⟨⟨g, h1, _⟩, h2⟩ => ⟨⟨_, _, _, _, _, h1⟩, h2⟩
    rcases b1 with t1 | ⟨t1, u1⟩
    · exact brief true .nilFunc .nilFunc hMade (.inl t1)
    rcases b2 with t2 | ⟨t2, u2⟩
    · exact brief true .nilFunc .nilFunc hMade (.inr (.inl ⟨t1, t2⟩))
    rcases b3 with t3 | ⟨t3, u3⟩
    · exact brief true .nilFunc .nilFunc hMade (.inr (.inr (.inl ⟨t1, t2, t3⟩)))
    clear brief hMade
    have HM := hid (fun w => made_ok w f e s x hc hx)
    have hy0 := Noi.seed0_pos x
    have hyM := hid (Noi.seed0_lt hx)
    generalize Noi.seed0 x = y at *
    have HC := hid hc
    clear hx hc wf we hl1 hl2 hl3
    go_enter Try.func8, Try.ntmps8
    go_wp2_with fail
    refine (HM.out _).mono ?_
    rintro r w1 ⟨⟨g, rfl, N1, hg⟩, B1⟩
    have HB1 := hid (up_alloc B1)
    have HP1 := hid (show Blk w1 w.heap.size 23 #[.int .i64 f, .int .i64 e, .int .i64 s] from Blk.below (Blk.new w _ _) B1 (by simp))
    have hg2 : w.heap.size < g := by simp at hg; omega
    have hgl := N1.lt
    have HN1 := hid N1
    clear B1 N1 hg HM
    go_wp2_with fail
    have F : Fr (fun _ => False) w1 (w1.alloc (.cells #[.int .i64 f, .int .i64 e, .int .i64 s, .int .u64 (y : Nat)] 28)) := Fr.alloc _ _ _
    have HR1 := hid (show RB _ w1.heap.size f e s y from Blk.new w1 _ _)
    generalize World.alloc _ _ = wA at *
    have HNA := hid (HN1.out.fr F (fun h => h))
    have HPA := hid (HP1.out.fr F (fun h => h))
    have HBA := hid (HB1.out.trans (F.below HB1.out.size (fun _ _ h => h)))
    have hwA : w1.heap.size < wA.heap.size := HR1.out.lt
    clear F HN1 HP1 HB1
    have HRA := hid HR1.out
    clear HR1
    refine (soft_arg w _ _ A HV1.out (by omega) f e s HC.out g y (by omega) hy0 hyM.out wA HBA.out HNA.out).mono ?_
    rintro r wB ⟨⟨uB, rfl, V⟩, N, F⟩
    have hsB : wA.heap.size ≤ wB.heap.size := F.size
    have HNB := hid N
    have HPB := hid (HPA.out.fr F (by first | omega | exact id))
    have HBB := hid (HBA.out.trans (F.below HBA.out.size (fun j hj e => by first | omega | exact e)))
    have HRB := hid (HRA.out.fr F (by first | omega | exact id))
    clear HNA HPA HBA HRA N V F
    obtain ⟨⟨c0, c1, c2, c3⟩, fz⟩ := HRB.out.c
    have f0 := fz 0
    have f1 := fz 1
    have f2 := fz 2
    have f3 := fz 3
    clear fz
    go_wp2_with fail
    refine (refSoft_any wB f e s y _ A HC.out hyM.out (HV1.out.below HBB.out (Nat.le_refl _)) (by omega)).mono ?_
    rintro r wC ⟨⟨uC, rfl, V⟩, B⟩
    have hsC : wB.heap.size ≤ wC.heap.size := B.size
    have HNC := hid (HNB.out.below B HNB.out.lt)
    have HPC := hid (HPB.out.below B HPB.out.lt)
    have HBC := hid (below_then HBB.out B)
    have HRC := hid (HRB.out.below B HRB.out.lt)
    clear HNB HPB HBB HRB V B
    clear c0 c1 c2 c3 f0 f1 f2 f3
    have hyA0 := Noi.sofX_pos hy0 hyM.out A
    have hyAM := hid (Noi.sofX_lt hyM.out A)
    generalize Noi.sofX y A = yA at *
    clear hy0 hyM
    obtain ⟨⟨c0, c1, c2, c3⟩, fz⟩ := HRC.out.c
    have f0 := fz 0
    have f1 := fz 1
    have f2 := fz 2
    have f3 := fz 3
    clear fz
    go_wp2_with fail
    generalize hW : World.setCell _ _ _ = wD
    have h5 := HRC.out.sto' hW
    have F := h5.2
    have HRD := hid h5.1
    have hsD : wC.heap.size ≤ wD.heap.size := F.size
    have HND := hid (HNC.out.fr F (by first | omega | exact id))
    have HPD := hid (HPC.out.fr F (by first | omega | exact id))
    have HBD := hid (HBC.out.trans (F.below HBC.out.size (fun j hj e => by first | omega | exact e)))
    clear HNC HPC HBC HRC hW h5 F c0 c1 c2 c3 f0 f1 f2 f3
    refine (clone_any wD g yA f e s HND.out hyA0).mono ?_
    rintro r wE ⟨rfl, N, B⟩
    have hsE : wD.heap.size < wE.heap.size := N.lt
    have HOE := hid N
    obtain ⟨go, hgo⟩ : ∃ go, go = wD.heap.size := ⟨_, rfl⟩
    rw [← hgo] at HOE ⊢
    have hgo1 : wD.heap.size ≤ go := by omega
    have hgo2 : go ≤ wD.heap.size := by omega
    clear hgo
    have HNE := hid (HND.out.below B HND.out.lt)
    have HPE := hid (HPD.out.below B HPD.out.lt)
    have HBE := hid (below_then HBD.out B)
    have HRE := hid (HRD.out.below B HRD.out.lt)
    clear HND HPD HBD HRD N B
    go_wp2_with fail
    refine (soft_arg w _ _ B HV2.out (by omega) f e s HC.out g yA (by omega) hyA0 hyAM.out wE HBE.out HNE.out).mono ?_
    rintro r wF ⟨⟨uF, rfl, V⟩, N, F⟩
    have hsF : wE.heap.size ≤ wF.heap.size := F.size
    have HNF := hid N
    have HXF := hid V
    have HPF := hid (HPE.out.fr F (by first | omega | exact id))
    have HBF := hid (HBE.out.trans (F.below HBE.out.size (fun j hj e => by first | omega | exact e)))
    have HRF := hid (HRE.out.fr F (by first | omega | exact id))
    have HOF := hid (HOE.out.fr F (by first | omega | exact id))
    clear HNE HPE HBE HRE HOE N V F
    go_wp2_with fail
    refine (soft_arg w _ _ D HV3.out (by omega) f e s HC.out go yA (by omega) hyA0 hyAM.out wF HBF.out HOF.out).mono ?_
    rintro r wG ⟨⟨uG, rfl, V⟩, N, F⟩
    have hsG : wF.heap.size ≤ wG.heap.size := F.size
    have HOG := hid N
    have HYG := hid V
    have HNG := hid (HNF.out.fr F (by first | omega | exact id))
    have HPG := hid (HPF.out.fr F (by first | omega | exact id))
    have HBG := hid (HBF.out.trans (F.below HBF.out.size (fun j hj e => by first | omega | exact e)))
    have HRG := hid (HRF.out.fr F (by first | omega | exact id))
    have HXG := hid (HXF.out.fr F (fun b hb => by first | omega | exact id))
    clear HNF HPF HBF HRF HOF HXF N V F
    obtain ⟨⟨c0, c1, c2, c3⟩, fz⟩ := HRG.out.c
    clear fz
    go_wp2_with fail
    refine (refSoft_any wG f e s yA _ B HC.out hyAM.out (HV2.out.below HBG.out (Nat.le_refl _)) (by omega)).mono ?_
    rintro r wH ⟨⟨uH, rfl, V⟩, B⟩
    have hsH : wG.heap.size ≤ wH.heap.size := B.size
    have HUH := hid V
    have HNH := hid (HNG.out.below B HNG.out.lt)
    have HPH := hid (HPG.out.below B HPG.out.lt)
    have HBH := hid (below_then HBG.out B)
    have HRH := hid (HRG.out.below B HRG.out.lt)
    have HOH := hid (HOG.out.below B HOG.out.lt)
    have HXH := hid (HXG.out.below B (Nat.le_refl _))
    have HYH := hid (HYG.out.below B (Nat.le_refl _))
    clear HNG HPG HBG HRG HOG HXG HYG V B
    clear c0 c1 c2 c3
    obtain ⟨⟨c0, c1, c2, c3⟩, fz⟩ := HRH.out.c
    clear fz
    have hlt1 : w1.heap.size < wH.heap.size := by omega
    go_wp2_with fail
    have F : Fr (fun _ => False) wH (wH.alloc (.cells #[.int .i64 f, .int .i64 e, .int .i64 s, .int .u64 (Noi.sofX yA B : Nat)] 28)) := Fr.alloc _ _ _
    have HEI := hid (show RB _ wH.heap.size f e s (Noi.sofX yA B) from Blk.new wH _ _)
    generalize World.alloc _ _ = wI at *
    have hsI : wH.heap.size < wI.heap.size := HEI.out.lt
    have HNI := hid (HNH.out.fr F (by first | omega | exact id))
    have HPI := hid (HPH.out.fr F (by first | omega | exact id))
    have HBI := hid (HBH.out.trans (F.below HBH.out.size (fun j hj e => by first | omega | exact e)))
    have HRI := hid (HRH.out.fr F (by first | omega | exact id))
    have HOI := hid (HOH.out.fr F (by first | omega | exact id))
    have HXI := hid (HXH.out.fr F (fun b hb => by first | omega | exact id))
    have HYI := hid (HYH.out.fr F (fun b hb => by first | omega | exact id))
    have HUI := hid (HUH.out.fr F (fun b hb => by first | omega | exact id))
    clear HNH HPH HBH HRH HOH HXH HYH HUH F c0 c1 c2 c3
    refine (refSoft_any wI f e s yA _ D HC.out hyAM.out (HV3.out.below HBI.out (Nat.le_refl _)) (by omega)).mono ?_
    rintro r wJ ⟨⟨uJ, rfl, V⟩, B⟩
    have hsJ : wI.heap.size ≤ wJ.heap.size := B.size
    have HZJ := hid V
    have HNJ := hid (HNI.out.below B HNI.out.lt)
    have HPJ := hid (HPI.out.below B HPI.out.lt)
    have HBJ := hid (below_then HBI.out B)
    have HRJ := hid (HRI.out.below B HRI.out.lt)
    have HOJ := hid (HOI.out.below B HOI.out.lt)
    have HXJ := hid (HXI.out.below B (Nat.le_refl _))
    have HYJ := hid (HYI.out.below B (Nat.le_refl _))
    have HUJ := hid (HUI.out.below B (Nat.le_refl _))
    have HEJ := hid (HEI.out.below B HEI.out.lt)
    clear HNI HPI HBI HRI HOI HXI HYI HUI HEI V B
    go_wp2
    have F : Fr (fun _ => False) wJ (wJ.alloc (.cells #[.int .i64 f, .int .i64 e, .int .i64 s, .int .u64 (Noi.sofX yA D : Nat)] 28)) := Fr.alloc _ _ _
    have HGK := hid (show RB _ wJ.heap.size f e s (Noi.sofX yA D) from Blk.new wJ _ _)
    generalize World.alloc _ _ = wK at *
    have hsK : wJ.heap.size < wK.heap.size := HGK.out.lt
    have HNK := hid (HNJ.out.fr F (by first | omega | exact id))
    have HPK := hid (HPJ.out.fr F (by first | omega | exact id))
    have HBK := hid (HBJ.out.trans (F.below HBJ.out.size (fun j hj e => by first | omega | exact e)))
    have HRK := hid (HRJ.out.fr F (by first | omega | exact id))
    have HOK := hid (HOJ.out.fr F (by first | omega | exact id))
    have HXK := hid (HXJ.out.fr F (fun b hb => by first | omega | exact id))
    have HYK := hid (HYJ.out.fr F (fun b hb => by first | omega | exact id))
    have HUK := hid (HUJ.out.fr F (fun b hb => by first | omega | exact id))
    have HEK := hid (HEJ.out.fr F (by first | omega | exact id))
    have HZK := hid (HZJ.out.fr F (fun b hb => by first | omega | exact id))
    clear HNJ HPJ HBJ HRJ HOJ HXJ HYJ HUJ HEJ HZJ F
    have hX0 := Noi.sofX_pos hyA0 hyAM.out B
    have hY0 := Noi.sofX_pos hyA0 hyAM.out D
    have hl1 := Noi.sofL_len f e s yA B
    have hl2 := Noi.sofL_len f e s yA D
    generalize Noi.sofX yA B = zB at *
    generalize Noi.sofX yA D = zD at *
    generalize Noi.sofL f e s yA B = LB at *
    generalize Noi.sofL f e s yA D = LD at *
    generalize Noi.sofE B = eB at *
    generalize Noi.sofE D = eD at *
    generalize Noi.sofE A = eA at *
    have HS := hid (show ∀ W, Below wK.heap.size wK W → W.cell? ⟨wH.heap.size, 3, none⟩ = some (.int .u64 (zB : Nat)) ∧ W.cell? ⟨wJ.heap.size, 3, none⟩ = some (.int .u64 (zD : Nat)) ∧ W.cell? ⟨w.heap.size, 0, none⟩ = some (.int .i64 f) ∧ W.cell? ⟨w.heap.size, 1, none⟩ = some (.int .i64 e) ∧ W.cell? ⟨w.heap.size, 2, none⟩ = some (.int .i64 s) from fun W hW =>
      ⟨(HEK.out.below hW HEK.out.lt).c.1.2.2.2, (HGK.out.below hW HGK.out.lt).c.1.2.2.2, (HPK.out.below hW HPK.out.lt).cell 0, (HPK.out.below hW HPK.out.lt).cell 1, (HPK.out.below hW HPK.out.lt).cell 2⟩)
    have hsz : ∀ W, Below wK.heap.size wK W → ∀ W', Below W.heap.size W W' → Below wK.heap.size wK W' := fun W h W' h' => below_then h h'
    have K1 := hid (fun W (h : Below wK.heap.size wK W) => (same18_true W _ _ LB (HXK.out.vw.below h (Nat.le_refl _)) (HUK.out.vw.below h (Nat.le_refl _)) (by omega)).mono fun r w' h' => (⟨h'.1, hsz W h w' h'.2⟩ : _ ∧ Below wK.heap.size wK w'))
    have K2 := hid (fun W (h : Below wK.heap.size wK W) => (same18_true W _ _ LD (HYK.out.vw.below h (Nat.le_refl _)) (HZK.out.vw.below h (Nat.le_refl _)) (by omega)).mono fun r w' h' => (⟨h'.1, hsz W h w' h'.2⟩ : _ ∧ Below wK.heap.size wK w'))
    have K3 := hid (fun W (h : Below wK.heap.size wK W) => state_any W g zB f e s (HNK.out.below h HNK.out.lt) hX0)
    have K4 := hid (fun W (h : Below wK.heap.size wK W) => state_any W go zD f e s (HOK.out.below h HOK.out.lt) hY0)
    have K5 := hid (fun W (h : Below wK.heap.size wK W) => (channel_any W go zD f e s (HOK.out.below h HOK.out.lt) hY0).mono fun r w' h' => (⟨h'.1, hsz W h w' h'.2⟩ : _ ∧ Below wK.heap.size wK w'))
    have K6 := hid (fun W (h : Below wK.heap.size wK W) => (works18 W).mono fun r w' h' => (⟨h'.1, hsz W h w' h'.2⟩ : _ ∧ Below wK.heap.size wK w'))
    have B0 : Below wK.heap.size wK wK.drew := below_drewN wK 1
    have he1 : (eB == eB) = true := beq_self_eq_true eB
    have he2 : (eD == eD) = true := beq_self_eq_true eD
    clear hsz hX0 hY0 hl1 hl2
    go_region_held3 (fun W => W.cell? ⟨wH.heap.size, 3, none⟩ = some (.int .u64 (zB : Nat)) ∧ W.cell? ⟨wJ.heap.size, 3, none⟩ = some (.int .u64 (zD : Nat)) ∧ W.cell? ⟨w.heap.size, 0, none⟩ = some (.int .i64 f) ∧ W.cell? ⟨w.heap.size, 1, none⟩ = some (.int .i64 e) ∧ W.cell? ⟨w.heap.size, 2, none⟩ = some (.int .i64 s)) (exact HS.out _ (by assumption))
      ((first
        | (go_at_call 22; (with_reducible refine (K1.out _ (by assumption)).mono ?_); rintro r wa ⟨rfl, Ba⟩)
        | (go_at_call 22; (with_reducible refine (K2.out _ (by assumption)).mono ?_); rintro r wb ⟨rfl, Bb⟩)
        | (go_at_call 16; (with_reducible refine (num18_any _ _).mono ?_); rintro r wc ⟨rfl, rfl⟩)
        | (go_at_call 18; (with_reducible refine (K3.out _ (by assumption)).mono ?_); rintro r wc ⟨rfl, rfl⟩)
        | (go_at_call 18; (with_reducible refine (K4.out _ (by assumption)).mono ?_); rintro r wc ⟨rfl, rfl⟩)
        | (go_at_call 23; (with_reducible refine (K5.out _ (by assumption)).mono ?_); rintro r wd ⟨rfl, Bd⟩)
        | (go_at_call 11; (with_reducible refine (K6.out _ (by assumption)).mono ?_); rintro r we ⟨rfl, Be⟩)))
    all_goals
      go_wp2
      go_ret
      exact ⟨rfl, below_then HBK.out (by assumption)⟩
  · have hMade : ∀ w, Calls Try.prog 10 #[.agg #[.int .i64 f, .int .i64 e, .int .i64 s], .int .u64 (x : Nat)] w fun r w' => (∃ (p' : Value) (f' e' s' : Int) (z : Nat), r = .returned (.tuple #[p', NV f' e' s' z, .bool false, .bool true])) ∧ Below w.heap.size w w' :=
      fun w => (made_bad w f e s x hc wf we).mono fun r w' ⟨h1, h2⟩ => ⟨⟨_, _, _, _, _, h1⟩, h2⟩
    rcases b1 with t1 | ⟨t1, u1⟩
    · exact brief false .nilFunc .nilFunc hMade (.inl t1)
    rcases b2 with t2 | ⟨t2, u2⟩
    · exact brief false .nilFunc .nilFunc hMade (.inr (.inl ⟨t1, t2⟩))
    rcases b3 with t3 | ⟨t3, u3⟩
    · exact brief false .nilFunc .nilFunc hMade (.inr (.inr (.inl ⟨t1, t2, t3⟩)))
    exact brief false .nilFunc .nilFunc hMade (.inr (.inr (.inr ⟨t1, t2, t3, rfl⟩)))
end Go.Proofs.Ytngggknejkcepaa

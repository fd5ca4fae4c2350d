/- userplanelaw18.NoisePoints. -/
import Derived.Test.YtngggknejkcepaaLaws18a
import Derived.Test.YtngggknejkcepaaNoiS
import Derived.Test.YtngggknejkcepaaPtF
namespace Go.Proofs.Ytngggknejkcepaa
open Go.RowKit Go.Shelf
set_option linter.unusedVariables false
attribute [local go_sem ↓] Go.wp_at_zero Go.wp_at_succ
set_option maxRecDepth 100000 in
set_option maxHeartbeats 4000000 in
theorem law_NoisePoints (w : World) (f e s x : Int) (v : Value) (A : List Pt) (wf : (Lit.int .i64 f).wf = true) (we : (Lit.int .i64 e).wf = true) (ws : (Lit.int .i64 s).wf = true) (wx : (Lit.int .u64 x).wf = true) (hv : PVw w v A) :
    Calls Try.prog 7 #[.agg #[.int .i64 f, .int .i64 e, .int .i64 s], .int .u64 x, v] w fun e w' => e = .returned (.bool true) ∧ Below w.heap.size w w' := by
  obtain ⟨x, rfl, hx⟩ := wf_u64' wx
  clear wx ws
  have HV := hid hv
  obtain ⟨a, c, rfl, _⟩ := hv
  rcases ch_dec f e s with hc | hc
  · clear wf we
    have HM := hid (fun w => made_ok w f e s x hc hx)
    by_cases hbig : 200 < A.length
    · have hd : decide (200 < (A.length : Int)) = true := by simp; omega
      clear hc hx hbig
      go_enter Try.func7, Try.ntmps7
      go_wp2_with fail
      refine (HM.out _).mono ?_
      rintro r w1 ⟨⟨g, rfl, N1, hg⟩, B1⟩
      have HB1 := hid (up_alloc B1)
      clear B1 N1 hg
      go_wp2_with (go_at_call 11; refine (works18 _).mono ?_; rintro r w2 ⟨rfl, B2⟩)
      go_ret
      exact ⟨rfl, below_then HB1.out ((below_alloc _ _).trans (B2.mono (by simp)))⟩
    · have hd : decide (200 < (A.length : Int)) = false := by simp; omega
      have hA : A.length ≤ 200 := by omega
      clear hbig
      have hy0 := Noi.seed0_pos x
      have hyM := hid (Noi.seed0_lt hx)
      generalize Noi.seed0 x = y at *
      clear hx
      have HC := hid hc
      clear hc
      go_enter Try.func7, Try.ntmps7
      go_wp2_with fail
      refine (HM.out _).mono ?_
      rintro r w1 ⟨⟨g, rfl, N1, hg⟩, B1⟩
      have HB1 := hid (up_alloc B1)
      have HP1 := hid (show Blk w1 w.heap.size 23 #[.int .i64 f, .int .i64 e, .int .i64 s] from Blk.below (Blk.new w _ _) B1 (by simp))
      have hg2 : w.heap.size < g := by simp at hg; omega
      have hgl := N1.lt
      have HN1 := hid N1
      clear B1 N1 hg HM
      have HV1 := hid (HV.out.below HB1.out (Nat.le_refl _))
      go_wp2_with (at_builtin; refine wpList_copy_list2 rfl pelem_n (.tmp 35) (.tmp 36) rfl (by rw [World.size_alloc]; rfl) _ A rfl (HV1.out.below (below_alloc _ _) (Nat.le_refl _)) (by omega) ?_; intro vo w2 O2 B2)
      have HO2 := hid O2.vwA
      have HR2 := hid (show RB w2 w1.heap.size f e s y from Blk.below (Blk.new w1 _ _) B2 (by simp))
      have B2' := up_alloc B2
      have HN2 := hid (HN1.out.below B2' hgl)
      have HP2 := hid (HP1.out.below B2' HP1.out.lt)
      have HB2 := hid (below_then HB1.out B2')
      have hs2 : w1.heap.size < w2.heap.size := HR2.out.lt
      clear O2 B2 B2' HN1 HP1 HB1 HV1
      refine (npoints_any w2 g y f e s vo A HC.out hy0 hyM.out HN2.out HO2.out.vw (fun q off n c h _ => by have := HO2.out.hi q off n c h; simp at this; omega) (by omega)).mono ?_
      rintro r w3 ⟨⟨v3, rfl, V3⟩, N3, F3⟩
      have hz : ∀ j, j < w2.heap.size → ¬ j = g → w3.heap[j]? = w2.heap[j]? := fun j h1 h2 => F3.block j h1 h2
      have HV3 := hid V3
      have HN3 := hid N3
      have HR3 := hid (HR2.out.fr F3 (by omega))
      have HP3 := hid (HP2.out.fr F3 (by omega))
      have HB3 := hid (HB2.out.trans (F3.below HB2.out.size (fun j hj e => by omega)))
      have HO3 := hid (HO2.out.fr F3 (fun b hb => by simp at hb; omega))
      have hs3 : w2.heap.size ≤ w3.heap.size := F3.size
      obtain ⟨⟨c0, c1, c2, c3⟩, -⟩ := HR3.out.c
      clear V3 N3 F3 HN2 HR2 HP2 HB2 HO2 hz
      go_wp2_with fail
      refine (refPts_any w3 f e s y _ A HC.out hyM.out (HV.out.below HB3.out (Nat.le_refl _)) (by omega)).mono ?_
      rintro r w4 ⟨⟨v4, rfl, V4⟩, B4⟩
      have HV4 := hid V4
      have HN4 := hid (HN3.out.below B4 HN3.out.lt)
      have HR4 := hid (HR3.out.below B4 HR3.out.lt)
      have HP4 := hid (HP3.out.below B4 HP3.out.lt)
      have HB4 := hid (below_then HB3.out B4)
      have HO4 := hid (HO3.out.below B4 (Nat.le_refl _))
      have HV34 := hid (HV3.out.below B4 (Nat.le_refl _))
      have hs4 : w3.heap.size ≤ w4.heap.size := B4.size
      clear V4 B4 HN3 HR3 HP3 HB3 HO3 HV3 c0 c1 c2 c3
      obtain ⟨⟨c0, c1, c2, c3⟩, fz⟩ := HR4.out.c
      have f0 := fz 0
      have f1 := fz 1
      have f2 := fz 2
      have f3 := fz 3
      clear fz
      go_wp2
      generalize hW5 : World.setCell _ _ _ = w5
      have h5 := HR4.out.sto' hW5
      have F5 := h5.2
      have HR5 := hid h5.1
      have HN5 := hid (HN4.out.fr F5 (by omega))
      have HP5 := hid (HP4.out.fr F5 (by omega))
      have HB5 := hid (HB4.out.trans (F5.below HB4.out.size (fun j hj e => by omega)))
      have HO5 := hid (HO4.out.fr F5 (fun b hb => by simp at hb; omega))
      have HV35 := hid (HV34.out.fr F5 (fun b hb => by omega))
      have HV5 := hid (HV4.out.fr F5 (fun b hb => by omega))
      have HVl := hid (HV.out.below HB5.out (Nat.le_refl _))
      have hs5 : w4.heap.size ≤ w5.heap.size := F5.size
      clear hW5 h5 F5 c0 c1 c2 c3 f0 f1 f2 f3 HN4 HR4 HP4 HB4 HO4 HV34 HV4
      have hXp := Noi.ptX_pos hy0 hyM.out A
      have hll := Noi.ptL_len s y A
      generalize Noi.ptX y A = z at *
      generalize Noi.ptL s y A = L at *
      generalize Noi.ptE A = er at *
      have HS := hid (show ∀ W, Below w5.heap.size w5 W → W.cell? ⟨w1.heap.size, 3, none⟩ = some (.int .u64 (z : Nat)) from fun W hW => (HR5.out.below hW HR5.out.lt).c.1.2.2.2)
      have hsz : ∀ W, Below w5.heap.size w5 W → ∀ W', Below W.heap.size W W' → Below w5.heap.size w5 W' := fun W h W' h' => below_then h h'
      have K1 := hid (fun W (h : Below w5.heap.size w5 W) => (pts_true W v3 v4 L (HV35.out.vw.below h (Nat.le_refl _)) (HV5.out.vw.below h (Nat.le_refl _)) (by omega)).mono fun r w' h' => (⟨h'.1, hsz W h w' h'.2⟩ : _ ∧ Below w5.heap.size w5 w'))
      have K2 := hid (fun W (h : Below w5.heap.size w5 W) => state_any W g z f e s (HN5.out.below h HN5.out.lt) hXp)
      have K4 := hid (fun W (h : Below w5.heap.size w5 W) => (pts_true W vo _ A (HO5.out.vw.below h (Nat.le_refl _)) (HVl.out.below h (Nat.le_refl _)) (by omega)).mono fun r w' h' => (⟨h'.1, hsz W h w' h'.2⟩ : _ ∧ Below w5.heap.size w5 w'))
      have K5 := hid (fun W (h : Below w5.heap.size w5 W) => (works18 W).mono fun r w' h' => (⟨h'.1, hsz W h w' h'.2⟩ : _ ∧ Below w5.heap.size w5 w'))
      have B0 : Below w5.heap.size w5 w5.drew := below_drewN w5 1
      clear hsz hXp hll
      have he : (er == er) = true := beq_self_eq_true er
      go_region_held3 (fun W => W.cell? ⟨w1.heap.size, 3, none⟩ = some (.int .u64 (z : Nat))) (exact HS.out _ (by assumption))
        ((first
          | (go_at_call 29; (with_reducible refine (K1.out _ (by assumption)).mono ?_); rintro r w6 ⟨rfl, B6⟩)
          | (go_at_call 29; (with_reducible refine (K4.out _ (by assumption)).mono ?_); rintro r w7 ⟨rfl, B7⟩)
          | (go_at_call 16; (with_reducible refine (num18_any _ _).mono ?_); rintro r w8 ⟨rfl, rfl⟩)
          | (go_at_call 18; (with_reducible refine (K2.out _ (by assumption)).mono ?_); rintro r w8 ⟨rfl, rfl⟩)
          | (go_at_call 11; (with_reducible refine (K5.out _ (by assumption)).mono ?_); rintro r w10 ⟨rfl, B10⟩)))
      all_goals
        go_wp2
        go_ret
        exact ⟨rfl, below_then HB5.out B10⟩
  · have HM := hid (fun w => made_bad w f e s x hc wf we)
    clear hc wf we hx
    by_cases hbig : 200 < A.length
    all_goals
      first
        | have hd : decide (200 < (A.length : Int)) = true := by simp; omega
        | have hd : decide (200 < (A.length : Int)) = false := by simp; omega
      clear hbig
      go_enter Try.func7, Try.ntmps7
      go_wp2_with fail
      refine (HM.out _).mono ?_
      rintro r w1 ⟨rfl, B1⟩
      have HB1 := hid (up_alloc B1)
      clear B1
      go_wp2_with (go_at_call 11; refine (works18 _).mono ?_; rintro r w2 ⟨rfl, B2⟩)
      go_ret
      exact ⟨rfl, below_then HB1.out ((below_alloc _ _).trans (B2.mono (by simp)))⟩
end Go.Proofs.Ytngggknejkcepaa

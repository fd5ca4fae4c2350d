/- userplanelaw18.NoiseBits. -/
import Derived.Test.YtngggknejkcepaaLaws18a
namespace Go.Proofs.Ytngggknejkcepaa
open Go.RowKit Go.Shelf
set_option linter.unusedVariables false
attribute [local go_sem ↓] Go.wp_at_zero Go.wp_at_succ
set_option maxRecDepth 100000 in
set_option maxHeartbeats 4000000 in
theorem law_NoiseBits (w : World) (f e s x : Int) (v : Value) (A : List Int) (wf : (Lit.int .i64 f).wf = true) (we : (Lit.int .i64 e).wf = true) (ws : (Lit.int .i64 s).wf = true) (wx : (Lit.int .u64 x).wf = true) (w0 : IntsIn .u8 w v A) :
    Calls Try.prog 3 #[.agg #[.int .i64 f, .int .i64 e, .int .i64 s], .int .u64 x, v] w fun e w' => e = .returned (.bool true) ∧ Below w.heap.size w w' := by
  obtain ⟨x, rfl, hx⟩ := wf_u64' wx
  clear wx ws
  obtain ⟨hv, hl, hwf⟩ := w0
  have HV := hid hv
  obtain ⟨a, c, rfl, _⟩ := hv
  rw [List.length_map] at HV ⊢
  rcases ch_dec f e s with hc | hc
  · clear wf we
    have HM := hid (fun w => made_ok w f e s x hc hx)
    by_cases hbig : 200 < A.length
    · have hd : decide (200 < (A.length : Int)) = true := by simp; omega
      clear hc hx hbig hl hwf
      go_enter Try.func3, Try.ntmps3
      go_wp2_with fail
      refine (HM.out _).mono ?_
      rintro r w1 ⟨⟨g, rfl, N1, hg⟩, B1⟩
      have HB1 := hid (up_alloc B1)
      clear B1 N1 hg
      go_wp2_with (go_at_call 11; refine (works18 _).mono ?_; rintro r w2 ⟨rfl, B2⟩)
      go_ret
      exact ⟨rfl, below_then HB1.out ((below_alloc _ _).trans (B2.mono (by simp)))⟩
    · have hd : decide (200 < (A.length : Int)) = false := by simp; omega
      have hA : A.length ≤ 200 := by omega
      clear hbig hl
      have hy0 := Noi.seed0_pos x
      have hyM := hid (Noi.seed0_lt hx)
      generalize Noi.seed0 x = y at *
      clear hx
      have HC := hid hc
      have HW := hid hwf
      clear hc hwf
      go_enter Try.func3, Try.ntmps3
      go_wp2_with fail
      refine (HM.out _).mono ?_
      rintro r w1 ⟨⟨g, rfl, N1, hg⟩, B1⟩
      have HB1 := hid (up_alloc B1)
      have hg2 : w.heap.size < g := by simp at hg; omega
      have hgl := N1.lt
      have HN1 := hid N1
      clear B1 N1 hg HM
      have HVb := hid (show ∀ q off n c', Value.slice a A.length c = .slice (some ⟨q, off, none⟩) n c' → 0 < A.length → q < w.heap.size from fun q off n c' h hp => by
        obtain ⟨q', off', c'', h', hcell⟩ := vw_at' HV.out hp
        have := World.block_lt_of_cell? _ _ hcell
        cases h; cases h'; exact this)
      go_wp2_with fail
      refine (nbits_any (w1.alloc _) g y f e s _ A HC.out hy0 hyM.out (HN1.out.fr (Fr.alloc (fun _ => False) _ _) (fun h => h)) (HV.out.below (HB1.out.trans ((below_alloc _ _).mono HB1.out.size)) (Nat.le_refl _)) HW.out (fun q off n c' h hp => by have := HVb.out q off n c' h hp; omega) (by omega)).mono ?_
      rintro r w3 ⟨⟨v3, rfl, V3⟩, N3, F3⟩
      have HV3 := hid V3
      have HN3 := hid N3
      have HR3 := hid (show RB w3 w1.heap.size f e s y from Blk.fr (Blk.new w1 _ _) F3 (by omega))
      have HB3 := hid (HB1.out.trans (((Fr.alloc _ w1 _).trans F3).below HB1.out.size (fun j hj e => by omega)))
      have hs3 : w1.heap.size < w3.heap.size := HR3.out.lt
      obtain ⟨⟨c0, c1, c2, c3⟩, -⟩ := HR3.out.c
      clear V3 N3 F3 HN1 HB1
      go_wp2_with fail
      refine (refBits_any w3 f e s y _ A HC.out hyM.out (HV.out.below HB3.out (Nat.le_refl _)) HW.out (by omega)).mono ?_
      rintro r w4 ⟨⟨v4, rfl, V4⟩, B4⟩
      have HV4 := hid V4
      have HN4 := hid (HN3.out.below B4 HN3.out.lt)
      have HR4 := hid (HR3.out.below B4 HR3.out.lt)
      have HB4 := hid (below_then HB3.out B4)
      have HV34 := hid (HV3.out.below B4 (Nat.le_refl _))
      have hs4 : w3.heap.size ≤ w4.heap.size := B4.size
      clear V4 B4 HN3 HR3 HB3 HV3 c0 c1 c2 c3
      obtain ⟨⟨c0, c1, c2, c3⟩, fz⟩ := HR4.out.c
      have f0 := fz 0
      have f1 := fz 1
      have f2 := fz 2
      have f3 := fz 3
      clear fz
      have hXp := Noi.bitX_pos hy0 hyM.out A
      have hXM := Noi.bitX_lt hyM.out A
      generalize Noi.bitX y A = z at *
      generalize Noi.bitL f e y A = L at *
      generalize Noi.bitE A = er at *
      have HXM := hid hXM
      go_wp2_with fail
      generalize hW5 : World.setCell _ _ _ = w5
      have h5 := HR4.out.sto' hW5
      have F5 := h5.2
      have HR5 := hid h5.1
      have HN5 := hid (HN4.out.fr F5 (by omega))
      have HB5 := hid (HB4.out.trans (F5.below HB4.out.size (fun j hj e => by omega)))
      have HV35 := hid (HV34.out.fr F5 (fun b hb => by simp at hb; omega))
      have HV5 := hid (HV4.out.fr F5 (fun b hb => by omega))
      have hs5 : w4.heap.size ≤ w5.heap.size := F5.size
      clear hW5 h5 F5 c0 c1 c2 c3 f0 f1 f2 f3 HN4 HR4 HB4 HV34 HV4 hXM
      refine (lost_any w5 g z f e s HC.out HN5.out hXp HXM.out).mono ?_
      rintro r w6 ⟨rfl, N6, F6⟩
      have hev := Noi.evt_cases f e (Noi.step z)
      have hb : (Noi.evt f e (Noi.step z) != 0) = decide (0 < Noi.evt f e (Noi.step z)) := by rcases hev with h | h | h <;> rw [h] <;> rfl
      rw [hb]
      have HN6 := hid N6
      have HR6 := hid (HR5.out.fr F6 (by omega))
      have HB6 := hid (HB5.out.trans (F6.below HB5.out.size (fun j hj e => by omega)))
      have HV36 := hid (HV35.out.fr F6 (fun b hb => by simp at hb; omega))
      have HV6 := hid (HV5.out.fr F6 (fun b hb => by omega))
      have hs6 : w5.heap.size ≤ w6.heap.size := F6.size
      clear N6 F6 HN5 HR5 HB5 HV35 HV5 hb hev
      have HEv := hid (fun w => refEvent_any w f e s (Noi.step z) HC.out)
      generalize Noi.evt f e (Noi.step z) = ev at *
      obtain ⟨⟨c0, c1, c2, c3⟩, -⟩ := HR6.out.c
      go_wp2_with fail
      refine (refStep_any w6 f e s z HXM.out).mono ?_
      rintro r w7 ⟨rfl, B7⟩
      have HN7 := hid (HN6.out.below B7 HN6.out.lt)
      have HR7 := hid (HR6.out.below B7 HR6.out.lt)
      have HB7 := hid (below_then HB6.out B7)
      have HV37 := hid (HV36.out.below B7 (Nat.le_refl _))
      have HV7 := hid (HV6.out.below B7 (Nat.le_refl _))
      have hs7 : w6.heap.size ≤ w7.heap.size := B7.size
      clear B7 c0 c1 c2 c3 HN6 HR6 HB6 HV36 HV6
      obtain ⟨⟨c0, c1, c2, c3⟩, fz⟩ := HR7.out.c
      have f0 := fz 0
      have f1 := fz 1
      have f2 := fz 2
      have f3 := fz 3
      clear fz
      have hzp := Noi.step_pos hXp HXM.out
      generalize Noi.step z = zz at *
      go_wp2
      generalize hW8 : World.setCell _ _ _ = w8
      have h8 := HR7.out.sto' hW8
      have F8 := h8.2
      have HR8 := hid h8.1
      have HN8 := hid (HN7.out.fr F8 (by omega))
      have HB8 := hid (HB7.out.trans (F8.below HB7.out.size (fun j hj e => by omega)))
      have HV38 := hid (HV37.out.fr F8 (fun b hb => by simp at hb; omega))
      have HV8 := hid (HV7.out.fr F8 (fun b hb => by omega))
      clear hW8 h8 F8 c0 c1 c2 c3 f0 f1 f2 f3 HN7 HR7 HB7 HV37 HV7
      have hc3 := fun W (hW : Below w8.heap.size w8 W) => run_bstr (P := Try.prog) W 25 9 5 Try.underlying25 Try.underlying5 Try.underlying9 v3 L (HV38.out.vw.below hW (Nat.le_refl _))
      have hc4 := fun W (hW : Below w8.heap.size w8 W) => run_bstr (P := Try.prog) W 25 9 5 Try.underlying25 Try.underlying5 Try.underlying9 v4 L (HV8.out.vw.below hW (Nat.le_refl _))
      generalize strOfNums L = str at hc3 hc4
      have HS := hid (show ∀ W, Below w8.heap.size w8 W → W.cell? ⟨w1.heap.size, 0, none⟩ = some (.int .i64 f) ∧ W.cell? ⟨w1.heap.size, 1, none⟩ = some (.int .i64 e) ∧ W.cell? ⟨w1.heap.size, 2, none⟩ = some (.int .i64 s) ∧ W.cell? ⟨w1.heap.size, 3, none⟩ = some (.int .u64 (zz : Nat)) ∧ (convert 25 9 v3).run Try.prog W = .ok (.string str) W ∧ (convert 25 9 v4).run Try.prog W = .ok (.string str) W from fun W hW =>
        (fun h => ⟨h.1, h.2.1, h.2.2.1, h.2.2.2, hc3 W hW, hc4 W hW⟩) (HR8.out.below hW HR8.out.lt).c.1)
      have hsz : ∀ W, Below w8.heap.size w8 W → ∀ W', Below W.heap.size W W' → Below w8.heap.size w8 W' := fun W h W' h' => below_then h h'
      have K2 := hid (fun W (h : Below w8.heap.size w8 W) => state_any W g zz f e s (HN8.out.below h HN8.out.lt) hzp)
      have K3 := hid (fun W (h : Below w8.heap.size w8 W) => (HEv.out W).mono fun r w' h' => (⟨h'.1, hsz W h w' h'.2⟩ : _ ∧ Below w8.heap.size w8 w'))
      have K5 := hid (fun W (h : Below w8.heap.size w8 W) => (works18 W).mono fun r w' h' => (⟨h'.1, hsz W h w' h'.2⟩ : _ ∧ Below w8.heap.size w8 w'))
      have B0 : Below w8.heap.size w8 w8.drew := below_drewN w8 1
      clear hsz hXp hzp hc3 hc4
      have he : (er == er) = true := beq_self_eq_true er
      go_region_held3 (fun W => W.cell? ⟨w1.heap.size, 0, none⟩ = some (.int .i64 f) ∧ W.cell? ⟨w1.heap.size, 1, none⟩ = some (.int .i64 e) ∧ W.cell? ⟨w1.heap.size, 2, none⟩ = some (.int .i64 s) ∧ W.cell? ⟨w1.heap.size, 3, none⟩ = some (.int .u64 (zz : Nat)) ∧ (convert 25 9 v3).run Try.prog W = .ok (.string str) W ∧ (convert 25 9 v4).run Try.prog W = .ok (.string str) W) (exact HS.out _ (by assumption))
        ((first
          | (go_at_call 16; (with_reducible refine (num18_any _ _).mono ?_); rintro r w8 ⟨rfl, rfl⟩)
          | (go_at_call 18; (with_reducible refine (K2.out _ (by assumption)).mono ?_); rintro r w8 ⟨rfl, rfl⟩)
          | (go_at_call 17; (with_reducible refine (K3.out _ (by assumption)).mono ?_); rintro r w9 ⟨rfl, B9⟩)
          | (go_at_call 11; (with_reducible refine (K5.out _ (by assumption)).mono ?_); rintro r w10 ⟨rfl, B10⟩)))
      all_goals
        go_wp2
        go_ret
        exact ⟨rfl, below_then HB8.out (by assumption)⟩
  · have HM := hid (fun w => made_bad w f e s x hc wf we)
    clear hc wf we hx hwf
    by_cases hbig : 200 < A.length
    all_goals
      first
        | have hd : decide (200 < (A.length : Int)) = true := by simp; omega
        | have hd : decide (200 < (A.length : Int)) = false := by simp; omega
      clear hbig hl
      go_enter Try.func3, Try.ntmps3
      go_wp2_with fail
      refine (HM.out _).mono ?_
      rintro r w1 ⟨rfl, B1⟩
      have HB1 := hid (up_alloc B1)
      clear B1
      go_wp2_with (go_at_call 11; refine (works18 _).mono ?_; rintro r w2 ⟨rfl, B2⟩)
      go_ret
      exact ⟨rfl, below_then HB1.out ((below_alloc _ _).trans (B2.mono (by simp)))⟩
end Go.Proofs.Ytngggknejkcepaa

/- userplanelaw17.GridHolds. -/
import Derived.Test.YtighnjbcnfnpmaaGriM
namespace Go.Proofs.Ytighnjbcnfnpmaa
open Go.RowKit Go.Shelf
set_option linter.unusedVariables false
attribute [local go_sem ↓] Go.wp_at_zero Go.wp_at_succ
set_option maxRecDepth 100000 in
set_option maxHeartbeats 4000000 in
theorem holds_bad (b t l first blocks m n seed : Int) (hv : Gr.vld b t l = false) (w : World) :
    Calls Try.prog 7 #[CV b t l, .int .i64 first, .int .i64 blocks, .int .i64 m, .int .i64 n, .int .i64 seed] w fun e w' => e = .returned (.bool true) ∧ Below w.heap.size w w' := by
  have KV := hid (refValid17 b t l)
  rw [hv] at KV
  clear hv
  go_enter Try.func7, Try.ntmps7
  go_wp2_with fail
  refine (KV.out _).mono ?_
  rintro r w1 ⟨rfl, B⟩
  have HC1 := hid (show Blk w1 w.heap.size 23 #[.int .i64 b, .int .i64 t, .int .i64 l] from Blk.below (Blk.new w _ _) B (by simp))
  have HB1 := hid (up_alloc B)
  have hl1 : w.heap.size < w1.heap.size := HC1.out.lt
  clear B
  have c0 : w1.cell? ⟨w.heap.size, 0, none⟩ = some (.int .i64 b) := HC1.out.cell 0
  have c1 : w1.cell? ⟨w.heap.size, 1, none⟩ = some (.int .i64 t) := HC1.out.cell 1
  have c2 : w1.cell? ⟨w.heap.size, 2, none⟩ = some (.int .i64 l) := HC1.out.cell 2
  go_wp2_with fail
  refine (works17 _).mono ?_
  rintro r w2 ⟨rfl, B⟩
  go_wp2
  go_ret
  exact ⟨rfl, below_then HB1.out B⟩
set_option maxRecDepth 100000 in
set_option maxHeartbeats 4000000 in
theorem holds_range (b t l first blocks m n seed : Int) (hv : Gr.vld b t l = true) (hd : Gr.datOk b t l first blocks = false) (wf : (Lit.int .i64 first).wf = true) (wk : (Lit.int .i64 blocks).wf = true) (w : World) :
    Calls Try.prog 7 #[CV b t l, .int .i64 first, .int .i64 blocks, .int .i64 m, .int .i64 n, .int .i64 seed] w fun e w' => e = .returned (.bool true) ∧ Below w.heap.size w w' := by
  have KV := hid (refValid17 b t l)
  rw [hv] at KV
  have KN := hid (gnew_ok b t l hv)
  have hc := Gr.vld_iff.1 hv
  have KD := hid (data_any b t l first blocks (wfi (by have := hc.b0; omega) (by have := hc.b1; omega)) wf wk)
  rw [show Gr.datE b t l first blocks = 2 from if_neg (by simp [hd])] at KD
  clear hv hd hc wf wk
  go_enter Try.func7, Try.ntmps7
  go_wp2_with fail
  refine (KV.out _).mono ?_
  rintro r w1 ⟨rfl, B⟩
  have HC1 := hid (show Blk w1 w.heap.size 23 #[.int .i64 b, .int .i64 t, .int .i64 l] from Blk.below (Blk.new w _ _) B (by simp))
  have HB1 := hid (up_alloc B)
  have hl1 : w.heap.size < w1.heap.size := HC1.out.lt
  clear B
  have c0 : w1.cell? ⟨w.heap.size, 0, none⟩ = some (.int .i64 b) := HC1.out.cell 0
  have c1 : w1.cell? ⟨w.heap.size, 1, none⟩ = some (.int .i64 t) := HC1.out.cell 1
  have c2 : w1.cell? ⟨w.heap.size, 2, none⟩ = some (.int .i64 l) := HC1.out.cell 2
  go_wp2_with fail
  refine (KN.out _).mono ?_
  rintro r w2 ⟨⟨g, q, rfl, hg, hq, hG⟩, B⟩
  have HG2 := hid hG
  have hgl2 := hG.lt
  clear hG
  have HC2 := hid (HC1.out.below B HC1.out.lt)
  have HB2 := hid (below_then HB1.out B)
  have hsz2 : w1.heap.size ≤ w2.heap.size := B.size
  clear B HC1 HB1 c0 c1 c2  
  have c0 : w2.cell? ⟨w.heap.size, 0, none⟩ = some (.int .i64 b) := HC2.out.cell 0
  have c1 : w2.cell? ⟨w.heap.size, 1, none⟩ = some (.int .i64 t) := HC2.out.cell 1
  have c2 : w2.cell? ⟨w.heap.size, 2, none⟩ = some (.int .i64 l) := HC2.out.cell 2
  go_wp2_with fail
  refine (KD.out _).mono ?_
  rintro r w3 ⟨⟨va, rfl, hVa⟩, B⟩
  clear hVa
  have HC3 := hid (HC2.out.below B HC2.out.lt)
  have HB3 := hid (below_then HB2.out B)
  have hsz3 : w2.heap.size ≤ w3.heap.size := B.size
  have HG3 := hid (HG2.out.blw B)
  clear B HC2 HB2 c0 c1 c2 HG2 
  have c0 : w3.cell? ⟨w.heap.size, 0, none⟩ = some (.int .i64 b) := HC3.out.cell 0
  have c1 : w3.cell? ⟨w.heap.size, 1, none⟩ = some (.int .i64 t) := HC3.out.cell 1
  have c2 : w3.cell? ⟨w.heap.size, 2, none⟩ = some (.int .i64 l) := HC3.out.cell 2
  go_wp2_with (first
    | (go_at_call 12; refine (num17_any _ _).mono ?_; rintro r w' ⟨rfl, rfl⟩)
    | (go_at_call 15; refine (works17 _).mono ?_; rintro r w4 ⟨rfl, B⟩))
  go_ret
  exact ⟨rfl, below_then HB3.out B⟩
set_option maxRecDepth 100000 in
set_option maxHeartbeats 8000000 in
theorem holds_one (b t l first blocks m n seed : Int) (hv : Gr.vld b t l = true) (hd : Gr.datOk b t l first blocks = true) (ho : b ≤ first + blocks) (wf : (Lit.int .i64 first).wf = true) (wk : (Lit.int .i64 blocks).wf = true) (w : World) :
    Calls Try.prog 7 #[CV b t l, .int .i64 first, .int .i64 blocks, .int .i64 m, .int .i64 n, .int .i64 seed] w fun e w' => e = .returned (.bool true) ∧ Below w.heap.size w w' := by
  have KV := hid (refValid17 b t l)
  rw [hv] at KV
  have KN := hid (gnew_ok b t l hv)
  have hc := Gr.vld_iff.1 hv
  have b0 := hc.b0
  have b1 := hc.b1
  have Wb := hid (show (Lit.int .i64 b).wf = true from wfi (by omega) (by omega))
  have Wf := hid wf
  have Wk := hid wk
  have Hv := hid hv
  have Hd := hid hd
  have hdd := hd
  simp only [Gr.datOk, Bool.and_eq_true, decide_eq_true_eq] at hdd
  obtain ⟨⟨⟨⟨-, f0⟩, g0⟩, f1⟩, g1⟩ := hdd
  have KD := hid (data_any b t l first blocks Wb.out wf wk)
  have hde := hid (show Gr.datE b t l first blocks = 0 from if_pos hd)
  rw [hde.out] at KD
  have Hnl := hid (Gr.newP_len b t l)
  have Hpe := hid (show ∀ k, k ≤ (Gr.datL b t l first blocks).length → Gr.putE b t l first blocks k = 0 from fun k hk => by unfold Gr.putE; rw [if_pos hd, if_neg (by omega)])
  have HLb := hid (show (Gr.datL b t l first blocks).length ≤ 16800 by have := Gr.dat_len b t l first blocks; omega)
  have HR8 := hid (Gr.refs_len (b := b) (t := t) (l := l) b0 hc.l0)
  have HK := hid (fun (i : Nat) (hi : (i : Int) < 168 * b) w => kindF_ok b t l i w hv hi)
  have dlt : decide (first + blocks < b) = false := decide_eq_false (by omega)
  have wr1 : IntKind.i64.wrap (first + blocks) = first + blocks := IntWalk.i64_in _ (by omega)
  clear hv hd hc wf wk
  go_enter Try.func7, Try.ntmps7
  go_wp2_with fail
  refine (KV.out _).mono ?_
  rintro r w1 ⟨rfl, B⟩
  have HC1 := hid (show Blk w1 w.heap.size 23 #[.int .i64 b, .int .i64 t, .int .i64 l] from Blk.below (Blk.new w _ _) B (by simp))
  have HB1 := hid (up_alloc B)
  have hl1 : w.heap.size < w1.heap.size := HC1.out.lt
  clear B
  have c0 : w1.cell? ⟨w.heap.size, 0, none⟩ = some (.int .i64 b) := HC1.out.cell 0
  have c1 : w1.cell? ⟨w.heap.size, 1, none⟩ = some (.int .i64 t) := HC1.out.cell 1
  have c2 : w1.cell? ⟨w.heap.size, 2, none⟩ = some (.int .i64 l) := HC1.out.cell 2
  go_wp2_with fail
  refine (KN.out _).mono ?_
  rintro r w2 ⟨⟨g, q, rfl, hg, hq, hG⟩, B⟩
  have HG2 := hid hG
  have hgl2 := hG.lt
  clear hG
  have HC2 := hid (HC1.out.below B HC1.out.lt)
  have HB2 := hid (below_then HB1.out B)
  have hsz2 : w1.heap.size ≤ w2.heap.size := B.size
  clear B HC1 HB1 c0 c1 c2  
  have c0 : w2.cell? ⟨w.heap.size, 0, none⟩ = some (.int .i64 b) := HC2.out.cell 0
  have c1 : w2.cell? ⟨w.heap.size, 1, none⟩ = some (.int .i64 t) := HC2.out.cell 1
  have c2 : w2.cell? ⟨w.heap.size, 2, none⟩ = some (.int .i64 l) := HC2.out.cell 2
  have hgw : w.heap.size < q := by omega
  go_wp2_with fail
  refine (KD.out _).mono ?_
  rintro r w3 ⟨⟨va, rfl, hVa⟩, B⟩
  obtain ⟨aa, ca, rfl, _⟩ := hVa.vw
  rw [List.length_map]
  clear hVa
  have HC3 := hid (HC2.out.below B HC2.out.lt)
  have HB3 := hid (below_then HB2.out B)
  have hsz3 : w2.heap.size ≤ w3.heap.size := B.size
  have HG3 := hid (HG2.out.blw B)
  clear B HC2 HB2 c0 c1 c2 HG2 
  have c0 : w3.cell? ⟨w.heap.size, 0, none⟩ = some (.int .i64 b) := HC3.out.cell 0
  have c1 : w3.cell? ⟨w.heap.size, 1, none⟩ = some (.int .i64 t) := HC3.out.cell 1
  have c2 : w3.cell? ⟨w.heap.size, 2, none⟩ = some (.int .i64 l) := HC3.out.cell 2
  obtain ⟨mm, hmm⟩ : ∃ mm, (if ((Gr.datL b t l first blocks).length : Int) < m then ((Gr.datL b t l first blocks).length : Int) else m) = mm := ⟨_, rfl⟩
  have Hmm := hid hmm
  have hm2 : mm ≤ ((Gr.datL b t l first blocks).length : Int) := by rw [← hmm]; split <;> omega
  have Hm2 := hid hm2
  have Kp := hid points_lit
  clear hm2
  go_wp2_with (go_at_call 12; refine (num17_any _ _).mono ?_; rintro r w' ⟨rfl, rfl⟩)
  refine (Kp.out _ _ _).mono ?_
  rintro r w4 ⟨⟨P, rfl, hPl, hP⟩, B⟩
  have hPL : P.length ≤ (Gr.datL b t l first blocks).length := by have := Hm2.out; rw [hPl]; split <;> (try split) <;> omega
  have HPL := hid hPL
  have HP4 := hid hP
  clear hPl hP hPL
  have HC4 := hid (HC3.out.below B HC3.out.lt)
  have HB4 := hid (below_then HB3.out B)
  have hsz4 : w3.heap.size ≤ w4.heap.size := B.size
  have HG4 := hid (HG3.out.blw B)
  clear B HC3 HB3 c0 c1 c2 HG3 hmm
  have c0 : w4.cell? ⟨w.heap.size, 0, none⟩ = some (.int .i64 b) := HC4.out.cell 0
  have c1 : w4.cell? ⟨w.heap.size, 1, none⟩ = some (.int .i64 t) := HC4.out.cell 1
  have c2 : w4.cell? ⟨w.heap.size, 2, none⟩ = some (.int .i64 l) := HC4.out.cell 2
  go_wp2_with fail
  refine (Kp.out _ _ _).mono ?_
  rintro r w5 ⟨⟨Q, rfl, hQl, hQ⟩, B⟩
  have hQb : Q.length ≤ 4000 := by rw [hQl]; split <;> (try split) <;> omega
  have HQ5 := hid hQ
  clear hQl hQ
  have HC5 := hid (HC4.out.below B HC4.out.lt)
  have HB5 := hid (below_then HB4.out B)
  have hsz5 : w4.heap.size ≤ w5.heap.size := B.size
  have HG5 := hid (HG4.out.blw B)
  have HP5 := hid (HP4.out.below B (Nat.le_refl _))
  clear B HC4 HB4 c0 c1 c2 HG4 HP4 
  have c0 : w5.cell? ⟨w.heap.size, 0, none⟩ = some (.int .i64 b) := HC5.out.cell 0
  have c1 : w5.cell? ⟨w.heap.size, 1, none⟩ = some (.int .i64 t) := HC5.out.cell 1
  have c2 : w5.cell? ⟨w.heap.size, 2, none⟩ = some (.int .i64 l) := HC5.out.cell 2
  have KP := hid (gput_ok HG5.out Hv.out Hnl.out first blocks Wf.out Wk.out _ P HP5.out.vw (fun b' off n' c' e => by cases e; omega) (Hpe.out _ HPL.out))
  go_wp2_with fail
  refine KP.out.mono ?_
  rintro r w6 ⟨rfl, hG, F⟩
  clear KP
  have HC6 := hid (HC5.out.fr F (by omega))
  have HB6 := hid (HB5.out.trans (F.below HB5.out.size (fun j hj e => by omega)))
  have hsz6 : w5.heap.size ≤ w6.heap.size := F.size
  have HG6 := hid hG
  have HP6 := hid (HP5.out.fr F (fun g' e => by simp [Value.ownBlock] at e; omega))
  have HQ6 := hid (HQ5.out.fr F (fun g' e => by simp [Value.ownBlock] at e; omega))
  clear F hG HC5 HB5 c0 c1 c2 HG5 HP5 HQ5 
  have c0 : w6.cell? ⟨w.heap.size, 0, none⟩ = some (.int .i64 b) := HC6.out.cell 0
  have c1 : w6.cell? ⟨w.heap.size, 1, none⟩ = some (.int .i64 t) := HC6.out.cell 1
  have c2 : w6.cell? ⟨w.heap.size, 2, none⟩ = some (.int .i64 l) := HC6.out.cell 2
  have HS1 := hid (show (Gr.putP b t l (Gr.newP b t l) first blocks P).length = (168 * b).toNat by rw [putP_len]; exact Hnl.out)
  have HT1 := hid (Gr.put_get (P := P) Hd.out Hnl.out HPL.out)
  have HS3 := hid (fun (x : Nat) (h : Gr.kd b t l x ≠ 3) => (rfl : (Gr.putP b t l (Gr.newP b t l) first blocks P).getD x (0, 0) = (Gr.putP b t l (Gr.newP b t l) first blocks P).getD x (0, 0)))
  have HS9 := hid HS1.out
  have HSk := hid (fun (x : Nat) (h : Gr.kd b t l x ≠ 3) => (HS3.out x h).trans (Gr.put_kind (b := b) (t := t) (l := l) (first := first) (blocks := blocks) (S := Gr.newP b t l) (Q := P) h))
  have KG := hid (gget_any HG6.out Hv.out HS9.out first blocks Wf.out Wk.out)
  rw [hde.out] at KG
  have HYl := hid (Gr.getP_len (Gr.putP b t l (Gr.newP b t l) first blocks P) (Gr.datL b t l first blocks))
  go_wp2_with fail
  refine KG.out.mono ?_
  rintro r w7 ⟨⟨vy, rfl, hY⟩, B⟩
  obtain ⟨ay, cy, rfl, hcy⟩ := hY.cut
  rw [HYl.out] at hY hcy ⊢
  have HYv7 := hid (hY.vw.take P.length cy (by rw [HYl.out]; exact HPL.out))
  rw [HT1.out] at HYv7
  have hcP : P.length ≤ cy := Nat.le_trans HPL.out hcy
  clear hY KG
  have HC7 := hid (HC6.out.below B HC6.out.lt)
  have HB7 := hid (below_then HB6.out B)
  have hsz7 : w6.heap.size ≤ w7.heap.size := B.size
  have HG7 := hid (HG6.out.blw B)
  have HP7 := hid (HP6.out.below B (Nat.le_refl _))
  have HQ7 := hid (HQ6.out.below B (Nat.le_refl _))
  clear B HC6 HB6 c0 c1 c2 HG6 HP6 HQ6 
  have c0 : w7.cell? ⟨w.heap.size, 0, none⟩ = some (.int .i64 b) := HC7.out.cell 0
  have c1 : w7.cell? ⟨w.heap.size, 1, none⟩ = some (.int .i64 t) := HC7.out.cell 1
  have c2 : w7.cell? ⟨w.heap.size, 2, none⟩ = some (.int .i64 l) := HC7.out.cell 2
  have KS := hid (refSame17 w7 _ _ P P HYv7.out HP7.out.vw (by have := HPL.out; have := HLb.out; omega) (by have := HPL.out; have := HLb.out; omega))
  rw [decide_eq_true rfl] at KS
  have hPb : P.length ≤ 16800 := Nat.le_trans HPL.out HLb.out
  go_wp2_with (go_at_call 12; refine (num17_any _ _).mono ?_; rintro r w' ⟨rfl, rfl⟩)
  refine KS.out.mono ?_
  rintro r w8 ⟨rfl, m8, hw8⟩
  have B : Below w7.heap.size w7 w8 := by rw [hw8]; exact below_drewN _ _
  clear hw8 KS
  have HC8 := hid (HC7.out.below B HC7.out.lt)
  have HB8 := hid (below_then HB7.out B)
  have hsz8 : w7.heap.size ≤ w8.heap.size := B.size
  have HG8 := hid (HG7.out.blw B)
  have HP8 := hid (HP7.out.below B (Nat.le_refl _))
  have HQ8 := hid (HQ7.out.below B (Nat.le_refl _))
  have HYv8 := hid (HYv7.out.below B (Nat.le_refl _))
  clear B HC7 HB7 c0 c1 c2 HG7 HP7 HQ7 HYv7 
  have c0 : w8.cell? ⟨w.heap.size, 0, none⟩ = some (.int .i64 b) := HC8.out.cell 0
  have c1 : w8.cell? ⟨w.heap.size, 1, none⟩ = some (.int .i64 t) := HC8.out.cell 1
  have c2 : w8.cell? ⟨w.heap.size, 2, none⟩ = some (.int .i64 l) := HC8.out.cell 2
  obtain ⟨N, hN⟩ : ∃ N : Nat, (N : Int) = 168 * b := ⟨(168 * b).toNat, by omega⟩
  have hNt : (168 * b).toNat = N := by rw [← hN]; rfl
  rw [hNt] at HS9
  have KQ := hid (gpoints_any HG8.out (by rw [HS9.out]; omega) (by rw [HS9.out]; omega))
  have HSr := hid (fun (x : Nat) (hx : x < N) (h : Gr.kd b t l x = 1) => ((HSk.out x (by rw [h]; decide)).trans (Gr.new_ref (by rw [hNt]; exact hx) h) : (Gr.putP b t l (Gr.newP b t l) first blocks P).getD x (0, 0) = (1, 1)))
  have HSz := hid (fun (x : Nat) (h : Gr.kd b t l x = 2) => ((HSk.out x (by rw [h]; decide)).trans (Gr.new_zero (by rw [h]; decide)) : (Gr.putP b t l (Gr.newP b t l) first blocks P).getD x (0, 0) = (0, 0)))
  have HR9 := hid (show (Gr.sel (fun i => Gr.kd b t l i == 1) N).length = (8 * b).toNat by rw [← HR8.out]; unfold Gr.refL; rw [hNt])
  generalize (Gr.putP b t l (Gr.newP b t l) first blocks P) = S9 at *
  go_wp2_with fail
  refine KQ.out.mono ?_
  rintro r w9 ⟨⟨vz, rfl, hZ⟩, B⟩
  obtain ⟨az, cz, rfl⟩ := hZ.is_slice
  rw [HS9.out] at hZ ⊢
  have HZ := hid hZ.vw
  have HNb := hid (show N ≤ 16800 by omega)
  have h168 : 168 * b = (N : Int) := hN.symm
  have Hn168 := hid hN
  clear hZ KQ hN hNt
  have HC9 := hid (HC8.out.below B HC8.out.lt)
  have HB9 := hid (below_then HB8.out B)
  have hsz9 : w8.heap.size ≤ w9.heap.size := B.size
  have HG9 := hid (HG8.out.blw B)
  have HP9 := hid (HP8.out.below B (Nat.le_refl _))
  have HQ9 := hid (HQ8.out.below B (Nat.le_refl _))
  have HYv9 := hid (HYv8.out.below B (Nat.le_refl _))
  clear B HC8 HB8 c0 c1 c2 HG8 HP8 HQ8 HYv8 
  have c0 : w9.cell? ⟨w.heap.size, 0, none⟩ = some (.int .i64 b) := HC9.out.cell 0
  have c1 : w9.cell? ⟨w.heap.size, 1, none⟩ = some (.int .i64 t) := HC9.out.cell 1
  have c2 : w9.cell? ⟨w.heap.size, 2, none⟩ = some (.int .i64 l) := HC9.out.cell 2
  clear c0 c1 c2 dlt wr1
  go_wp2
  go_loopw [29, 30] (fun rf i wr => ∃ k : Nat, k ≤ N ∧ i = .int .i64 k ∧ rf = .int .i64 ((Gr.sel (fun i => Gr.kd b t l i == 1) k).length : Nat) ∧ Below w9.heap.size w9 wr) (fun _ i _ => N - (intOf i).toNat)
  case atStart => exact ⟨0, Nat.zero_le _, rfl, rfl, Below.refl _ _⟩
  case round =>
    obtain ⟨k, hk, rfl, rfl, hB⟩ := hrel
    have hCr := HC9.out.below hB HC9.out.lt
    have c0 : wr.cell? ⟨w.heap.size, 0, none⟩ = some (.int .i64 b) := hCr.cell 0
    have c1 : wr.cell? ⟨w.heap.size, 1, none⟩ = some (.int .i64 t) := hCr.cell 1
    have c2 : wr.cell? ⟨w.heap.size, 2, none⟩ = some (.int .i64 l) := hCr.cell 2
    have hNb := HNb.out
    have hsl := Gr.sel_len (fun i => Gr.kd b t l i == 1) k
    by_cases hlt : k < N
    · have HKk := hid (HK.out k (by have := Hn168.out; omega))
      have HY := hid (@Gr.sel_yes (fun i => Gr.kd b t l i == 1) k)
      have HNo := hid (@Gr.sel_no (fun i => Gr.kd b t l i == 1) k)
      have HBr := hid hB
      have h1 := HSr.out k hlt
      have h2 := HSz.out k
      have hcs := Gr.kd_cases b t l k
      generalize Gr.kd b t l (k : Nat) = z at *
      clear hB hCr
      go_wp2_with fail
      refine (HKk.out _).mono ?_
      rintro r wk ⟨rfl, B⟩
      have HBk := hid (below_then HBr.out B)
      obtain ⟨b1', o1, e1, hx, hy⟩ := (HZ.out.below HBk.out (Nat.le_refl _)).at (show k < S9.length by rw [HS9.out]; exact hlt)
      cases e1
      generalize S9.getD k (0, 0) = p at *
      obtain ⟨px, py⟩ := p
      dsimp only at hx hy
      clear B c0 c1 c2
      rcases hcs with rfl | rfl | rfl
      · have h3 := h1 rfl
        simp only [Prod.mk.injEq] at h3
        obtain ⟨rfl, rfl⟩ := h3
        clear h1 h2
        go_wp2_with (go_at_call 12; refine (num17_any _ _).mono ?_; rintro r w' ⟨rfl, rfl⟩)
        go_roundw
        case rel => exact ⟨k + 1, by omega, by go_num, by rw [HY.out rfl]; simp, HBk.out⟩
        case measure => simp [intOf]; omega
      · have h3 := h2 rfl
        simp only [Prod.mk.injEq] at h3
        obtain ⟨rfl, rfl⟩ := h3
        clear h1 h2
        go_wp2_with (go_at_call 12; refine (num17_any _ _).mono ?_; rintro r w' ⟨rfl, rfl⟩)
        go_roundw
        case rel => exact ⟨k + 1, by omega, by go_num, by rw [HNo.out rfl], HBk.out⟩
        case measure => simp [intOf]; omega
      · clear h1 h2
        go_wp2_with (go_at_call 12; refine (num17_any _ _).mono ?_; rintro r w' ⟨rfl, rfl⟩)
        go_roundw
        case rel => exact ⟨k + 1, by omega, by go_num, by rw [HNo.out rfl], HBk.out⟩
        case measure => simp [intOf]; omega
    · obtain rfl : N = k := by omega
      have HBr := hid (below_then HB9.out hB)
      have hr8 := HR9.out
      generalize (Gr.sel (fun i => Gr.kd b t l i == 1) N).length = R at *
      have hR8' : 8 * b = (R : Int) := by omega
      have hRb : (R : Int) ≤ 100000 := by omega
      clear hB hCr hsl hNb hPb hk hlt hr8 h168 hRb
      have h168 : 168 * b = (N : Int) := Hn168.out.symm
      go_wp2_with fail
      refine (works17 _).mono ?_
      rintro r wz ⟨rfl, B⟩
      go_wp2
      go_ret
      exact ⟨rfl, below_then HBr.out B⟩
set_option maxRecDepth 100000 in
set_option maxHeartbeats 8000000 in
theorem holds_two (b t l first blocks m n seed : Int) (hv : Gr.vld b t l = true) (hd : Gr.datOk b t l first blocks = true) (ho : first + blocks < b) (wf : (Lit.int .i64 first).wf = true) (wk : (Lit.int .i64 blocks).wf = true) (w : World) :
    Calls Try.prog 7 #[CV b t l, .int .i64 first, .int .i64 blocks, .int .i64 m, .int .i64 n, .int .i64 seed] w fun e w' => e = .returned (.bool true) ∧ Below w.heap.size w w' := by
  have KV := hid (refValid17 b t l)
  rw [hv] at KV
  have KN := hid (gnew_ok b t l hv)
  have hc := Gr.vld_iff.1 hv
  have b0 := hc.b0
  have b1 := hc.b1
  have Wb := hid (show (Lit.int .i64 b).wf = true from wfi (by omega) (by omega))
  have Wf := hid wf
  have Wk := hid wk
  have Hv := hid hv
  have Hd := hid hd
  have hdd := hd
  simp only [Gr.datOk, Bool.and_eq_true, decide_eq_true_eq] at hdd
  obtain ⟨⟨⟨⟨-, f0⟩, g0⟩, f1⟩, g1⟩ := hdd
  have KD := hid (data_any b t l first blocks Wb.out wf wk)
  have hde := hid (show Gr.datE b t l first blocks = 0 from if_pos hd)
  rw [hde.out] at KD
  have Hnl := hid (Gr.newP_len b t l)
  have Hpe := hid (show ∀ k, k ≤ (Gr.datL b t l first blocks).length → Gr.putE b t l first blocks k = 0 from fun k hk => by unfold Gr.putE; rw [if_pos hd, if_neg (by omega)])
  have HLb := hid (show (Gr.datL b t l first blocks).length ≤ 16800 by have := Gr.dat_len b t l first blocks; omega)
  have HR8 := hid (Gr.refs_len (b := b) (t := t) (l := l) b0 hc.l0)
  have HK := hid (fun (i : Nat) (hi : (i : Int) < 168 * b) w => kindF_ok b t l i w hv hi)
  have hd2 : Gr.datOk b t l (first + blocks) (b - (first + blocks)) = true := by simp [Gr.datOk, hv]; omega
  have Wo := hid (show (Lit.int .i64 (first + blocks)).wf = true from wfi (by omega) (by omega))
  have Wr := hid (show (Lit.int .i64 (b - (first + blocks))).wf = true from wfi (by omega) (by omega))
  have KD2 := hid (data_any b t l (first + blocks) (b - (first + blocks)) Wb.out Wo.out Wr.out)
  have hde2 := hid (show Gr.datE b t l (first + blocks) (b - (first + blocks)) = 0 from if_pos hd2)
  rw [hde2.out] at KD2
  have Hpe2 := hid (show ∀ k, k ≤ (Gr.datL b t l (first + blocks) (b - (first + blocks))).length → Gr.putE b t l (first + blocks) (b - (first + blocks)) k = 0 from fun k hk => by unfold Gr.putE; rw [if_pos hd2, if_neg (by omega)])
  have HLb2 := hid (show (Gr.datL b t l (first + blocks) (b - (first + blocks))).length ≤ 16800 by have := Gr.dat_len b t l (first + blocks) (b - (first + blocks)); omega)
  have Hd2 := hid hd2
  have dlt : decide (first + blocks < b) = true := decide_eq_true ho
  have wr1 : IntKind.i64.wrap (first + blocks) = first + blocks := IntWalk.i64_in _ (by omega)
  have wr2 : IntKind.i64.wrap (b - (first + blocks)) = b - (first + blocks) := IntWalk.i64_in _ (by omega)
  clear hd2
  clear hv hd hc wf wk
  go_enter Try.func7, Try.ntmps7
  go_wp2_with fail
  refine (KV.out _).mono ?_
  rintro r w1 ⟨rfl, B⟩
  have HC1 := hid (show Blk w1 w.heap.size 23 #[.int .i64 b, .int .i64 t, .int .i64 l] from Blk.below (Blk.new w _ _) B (by simp))
  have HB1 := hid (up_alloc B)
  have hl1 : w.heap.size < w1.heap.size := HC1.out.lt
  clear B
  have c0 : w1.cell? ⟨w.heap.size, 0, none⟩ = some (.int .i64 b) := HC1.out.cell 0
  have c1 : w1.cell? ⟨w.heap.size, 1, none⟩ = some (.int .i64 t) := HC1.out.cell 1
  have c2 : w1.cell? ⟨w.heap.size, 2, none⟩ = some (.int .i64 l) := HC1.out.cell 2
  go_wp2_with fail
  refine (KN.out _).mono ?_
  rintro r w2 ⟨⟨g, q, rfl, hg, hq, hG⟩, B⟩
  have HG2 := hid hG
  have hgl2 := hG.lt
  clear hG
  have HC2 := hid (HC1.out.below B HC1.out.lt)
  have HB2 := hid (below_then HB1.out B)
  have hsz2 : w1.heap.size ≤ w2.heap.size := B.size
  clear B HC1 HB1 c0 c1 c2  
  have c0 : w2.cell? ⟨w.heap.size, 0, none⟩ = some (.int .i64 b) := HC2.out.cell 0
  have c1 : w2.cell? ⟨w.heap.size, 1, none⟩ = some (.int .i64 t) := HC2.out.cell 1
  have c2 : w2.cell? ⟨w.heap.size, 2, none⟩ = some (.int .i64 l) := HC2.out.cell 2
  have hgw : w.heap.size < q := by omega
  go_wp2_with fail
  refine (KD.out _).mono ?_
  rintro r w3 ⟨⟨va, rfl, hVa⟩, B⟩
  obtain ⟨aa, ca, rfl, _⟩ := hVa.vw
  rw [List.length_map]
  clear hVa
  have HC3 := hid (HC2.out.below B HC2.out.lt)
  have HB3 := hid (below_then HB2.out B)
  have hsz3 : w2.heap.size ≤ w3.heap.size := B.size
  have HG3 := hid (HG2.out.blw B)
  clear B HC2 HB2 c0 c1 c2 HG2 
  have c0 : w3.cell? ⟨w.heap.size, 0, none⟩ = some (.int .i64 b) := HC3.out.cell 0
  have c1 : w3.cell? ⟨w.heap.size, 1, none⟩ = some (.int .i64 t) := HC3.out.cell 1
  have c2 : w3.cell? ⟨w.heap.size, 2, none⟩ = some (.int .i64 l) := HC3.out.cell 2
  obtain ⟨mm, hmm⟩ : ∃ mm, (if ((Gr.datL b t l first blocks).length : Int) < m then ((Gr.datL b t l first blocks).length : Int) else m) = mm := ⟨_, rfl⟩
  have Hmm := hid hmm
  have hm2 : mm ≤ ((Gr.datL b t l first blocks).length : Int) := by rw [← hmm]; split <;> omega
  have Hm2 := hid hm2
  have Kp := hid points_lit
  clear hm2
  go_wp2_with (go_at_call 12; refine (num17_any _ _).mono ?_; rintro r w' ⟨rfl, rfl⟩)
  refine (Kp.out _ _ _).mono ?_
  rintro r w4 ⟨⟨P, rfl, hPl, hP⟩, B⟩
  have hPL : P.length ≤ (Gr.datL b t l first blocks).length := by have := Hm2.out; rw [hPl]; split <;> (try split) <;> omega
  have HPL := hid hPL
  have HP4 := hid hP
  clear hPl hP hPL
  have HC4 := hid (HC3.out.below B HC3.out.lt)
  have HB4 := hid (below_then HB3.out B)
  have hsz4 : w3.heap.size ≤ w4.heap.size := B.size
  have HG4 := hid (HG3.out.blw B)
  clear B HC3 HB3 c0 c1 c2 HG3 hmm
  have c0 : w4.cell? ⟨w.heap.size, 0, none⟩ = some (.int .i64 b) := HC4.out.cell 0
  have c1 : w4.cell? ⟨w.heap.size, 1, none⟩ = some (.int .i64 t) := HC4.out.cell 1
  have c2 : w4.cell? ⟨w.heap.size, 2, none⟩ = some (.int .i64 l) := HC4.out.cell 2
  go_wp2_with fail
  refine (Kp.out _ _ _).mono ?_
  rintro r w5 ⟨⟨Q, rfl, hQl, hQ⟩, B⟩
  have hQb : Q.length ≤ 4000 := by rw [hQl]; split <;> (try split) <;> omega
  have HQ5 := hid hQ
  clear hQl hQ
  have HC5 := hid (HC4.out.below B HC4.out.lt)
  have HB5 := hid (below_then HB4.out B)
  have hsz5 : w4.heap.size ≤ w5.heap.size := B.size
  have HG5 := hid (HG4.out.blw B)
  have HP5 := hid (HP4.out.below B (Nat.le_refl _))
  clear B HC4 HB4 c0 c1 c2 HG4 HP4 
  have c0 : w5.cell? ⟨w.heap.size, 0, none⟩ = some (.int .i64 b) := HC5.out.cell 0
  have c1 : w5.cell? ⟨w.heap.size, 1, none⟩ = some (.int .i64 t) := HC5.out.cell 1
  have c2 : w5.cell? ⟨w.heap.size, 2, none⟩ = some (.int .i64 l) := HC5.out.cell 2
  have KP := hid (gput_ok HG5.out Hv.out Hnl.out first blocks Wf.out Wk.out _ P HP5.out.vw (fun b' off n' c' e => by cases e; omega) (Hpe.out _ HPL.out))
  go_wp2_with fail
  refine KP.out.mono ?_
  rintro r w6 ⟨rfl, hG, F⟩
  clear KP
  have HC6 := hid (HC5.out.fr F (by omega))
  have HB6 := hid (HB5.out.trans (F.below HB5.out.size (fun j hj e => by omega)))
  have hsz6 : w5.heap.size ≤ w6.heap.size := F.size
  have HG6 := hid hG
  have HP6 := hid (HP5.out.fr F (fun g' e => by simp [Value.ownBlock] at e; omega))
  have HQ6 := hid (HQ5.out.fr F (fun g' e => by simp [Value.ownBlock] at e; omega))
  clear F hG HC5 HB5 c0 c1 c2 HG5 HP5 HQ5 
  have c0 : w6.cell? ⟨w.heap.size, 0, none⟩ = some (.int .i64 b) := HC6.out.cell 0
  have c1 : w6.cell? ⟨w.heap.size, 1, none⟩ = some (.int .i64 t) := HC6.out.cell 1
  have c2 : w6.cell? ⟨w.heap.size, 2, none⟩ = some (.int .i64 l) := HC6.out.cell 2
  have HS1 := hid (show (Gr.putP b t l (Gr.newP b t l) first blocks P).length = (168 * b).toNat by rw [putP_len]; exact Hnl.out)
  go_wp2_with fail
  refine (KD2.out _).mono ?_
  rintro r w7 ⟨⟨vb, rfl, hVb⟩, B⟩
  obtain ⟨ab, cb, rfl, _⟩ := hVb.vw
  rw [List.length_map]
  clear hVb
  have HC7 := hid (HC6.out.below B HC6.out.lt)
  have HB7 := hid (below_then HB6.out B)
  have hsz7 : w6.heap.size ≤ w7.heap.size := B.size
  have HG7 := hid (HG6.out.blw B)
  have HP7 := hid (HP6.out.below B (Nat.le_refl _))
  have HQ7 := hid (HQ6.out.below B (Nat.le_refl _))
  clear B HC6 HB6 c0 c1 c2 HG6 HP6 HQ6 
  have c0 : w7.cell? ⟨w.heap.size, 0, none⟩ = some (.int .i64 b) := HC7.out.cell 0
  have c1 : w7.cell? ⟨w.heap.size, 1, none⟩ = some (.int .i64 t) := HC7.out.cell 1
  have c2 : w7.cell? ⟨w.heap.size, 2, none⟩ = some (.int .i64 l) := HC7.out.cell 2
  obtain ⟨K, hK⟩ : ∃ K : Nat, (if (Gr.datL b t l (first + blocks) (b - (first + blocks))).length < Q.length then ((Gr.datL b t l (first + blocks) (b - (first + blocks))).length : Int) else (Q.length : Int)) = (K : Int) := ⟨if (Gr.datL b t l (first + blocks) (b - (first + blocks))).length < Q.length then (Gr.datL b t l (first + blocks) (b - (first + blocks))).length else Q.length, by split <;> rfl⟩
  have hKQ : K ≤ Q.length := by split at hK <;> omega
  have hKb : K ≤ (Gr.datL b t l (first + blocks) (b - (first + blocks))).length := by split at hK <;> omega
  have HK2 := hid (show (Q.take K).length = K by rw [List.length_take]; omega)
  have HKb := hid hKb
  have HQv := hid (HQ7.out.vw.take K Q.length hKQ)
  have hKI : ¬ (Q.length : Int) < (K : Int) := by omega
  have hK0 : (0 : Int) ≤ (K : Int) := by omega
  clear hKb
  have KP := hid (gput_ok HG7.out Hv.out HS1.out (first + blocks) (b - (first + blocks)) Wo.out Wr.out _ (Q.take K) HQv.out (fun b' off n' c' e => by cases e; omega) (Hpe2.out _ (by rw [HK2.out]; exact HKb.out)))
  rw [show Gr.putP b t l (Gr.putP b t l (Gr.newP b t l) first blocks P) (first + blocks) (b - (first + blocks)) (Q.take K) = _ from rfl] at KP
  go_wp2_with fail
  refine KP.out.mono ?_
  rintro r w8 ⟨rfl, hG, F⟩
  clear KP hK
  have HC8 := hid (HC7.out.fr F (by omega))
  have HB8 := hid (HB7.out.trans (F.below HB7.out.size (fun j hj e => by omega)))
  have hsz8 : w7.heap.size ≤ w8.heap.size := F.size
  have HG8 := hid hG
  have HP8 := hid (HP7.out.fr F (fun g' e => by simp [Value.ownBlock] at e; omega))
  have HQ8 := hid (HQ7.out.fr F (fun g' e => by simp [Value.ownBlock] at e; omega))
  clear F hG HC7 HB7 c0 c1 c2 HG7 HP7 HQ7 HQv
  have c0 : w8.cell? ⟨w.heap.size, 0, none⟩ = some (.int .i64 b) := HC8.out.cell 0
  have c1 : w8.cell? ⟨w.heap.size, 1, none⟩ = some (.int .i64 t) := HC8.out.cell 1
  have c2 : w8.cell? ⟨w.heap.size, 2, none⟩ = some (.int .i64 l) := HC8.out.cell 2
  have HS2 := hid (show (Gr.putP b t l (Gr.putP b t l (Gr.newP b t l) first blocks P) (first + blocks) (b - (first + blocks)) (Q.take K)).length = (168 * b).toNat by rw [putP_len]; exact HS1.out)
  have HT := hid (Gr.put_get (P := Q.take K) Hd2.out HS1.out (by rw [HK2.out]; exact HKb.out))
  have HO := hid (Gr.put_other (b := b) (t := t) (l := l) (first := first) (blocks := blocks) (S := (Gr.putP b t l (Gr.newP b t l) first blocks P)) (Q := Q.take K) (b - (first + blocks)))
  have HS3 := hid (fun (x : Nat) (h : Gr.kd b t l x ≠ 3) => Gr.put_kind (b := b) (t := t) (l := l) (first := first + blocks) (blocks := b - (first + blocks)) (S := (Gr.putP b t l (Gr.newP b t l) first blocks P)) (Q := Q.take K) h)
  have KG := hid (gget_any HG8.out Hv.out HS2.out (first + blocks) (b - (first + blocks)) Wo.out Wr.out)
  rw [hde2.out] at KG
  generalize (Gr.putP b t l (Gr.putP b t l (Gr.newP b t l) first blocks P) (first + blocks) (b - (first + blocks)) (Q.take K)) = S2 at *
  have HXl := hid (Gr.getP_len S2 (Gr.datL b t l (first + blocks) (b - (first + blocks))))
  go_wp2_with fail
  refine KG.out.mono ?_
  rintro r w9 ⟨⟨vx, rfl, hX⟩, B⟩
  obtain ⟨ax, cx, rfl, hcx⟩ := hX.cut
  rw [HXl.out] at hX hcx ⊢
  have HXv9 := hid (hX.vw.take K cx (by rw [HXl.out]; exact HKb.out))
  rw [show K = (Q.take K).length from HK2.out.symm, HT.out, HK2.out] at HXv9
  have hcK : K ≤ cx := Nat.le_trans HKb.out hcx
  clear hX KG
  have HC9 := hid (HC8.out.below B HC8.out.lt)
  have HB9 := hid (below_then HB8.out B)
  have hsz9 : w8.heap.size ≤ w9.heap.size := B.size
  have HG9 := hid (HG8.out.blw B)
  have HP9 := hid (HP8.out.below B (Nat.le_refl _))
  have HQ9 := hid (HQ8.out.below B (Nat.le_refl _))
  clear B HC8 HB8 c0 c1 c2 HG8 HP8 HQ8 
  have c0 : w9.cell? ⟨w.heap.size, 0, none⟩ = some (.int .i64 b) := HC9.out.cell 0
  have c1 : w9.cell? ⟨w.heap.size, 1, none⟩ = some (.int .i64 t) := HC9.out.cell 1
  have c2 : w9.cell? ⟨w.heap.size, 2, none⟩ = some (.int .i64 l) := HC9.out.cell 2
  have KS := hid (refSame17 w9 _ _ (Q.take K) (Q.take K) HXv9.out (HQ9.out.vw.take K Q.length hKQ) (by rw [HK2.out]; omega) (by rw [HK2.out]; omega))
  rw [decide_eq_true rfl] at KS
  go_wp2_with (go_at_call 12; refine (num17_any _ _).mono ?_; rintro r w' ⟨rfl, rfl⟩)
  refine KS.out.mono ?_
  rintro r w10 ⟨rfl, m10, hw10⟩
  have B : Below w9.heap.size w9 w10 := by rw [hw10]; exact below_drewN _ _
  clear hw10 KS
  have HC10 := hid (HC9.out.below B HC9.out.lt)
  have HB10 := hid (below_then HB9.out B)
  have hsz10 : w9.heap.size ≤ w10.heap.size := B.size
  have HG10 := hid (HG9.out.blw B)
  have HP10 := hid (HP9.out.below B (Nat.le_refl _))
  have HQ10 := hid (HQ9.out.below B (Nat.le_refl _))
  clear B HC9 HB9 c0 c1 c2 HG9 HP9 HQ9 HXv9
  have c0 : w10.cell? ⟨w.heap.size, 0, none⟩ = some (.int .i64 b) := HC10.out.cell 0
  have c1 : w10.cell? ⟨w.heap.size, 1, none⟩ = some (.int .i64 t) := HC10.out.cell 1
  have c2 : w10.cell? ⟨w.heap.size, 2, none⟩ = some (.int .i64 l) := HC10.out.cell 2
  have HT1 := hid (Gr.put_get (P := P) Hd.out Hnl.out HPL.out)
  rw [← HO.out] at HT1
  have HS9 := hid HS2.out
  have HSk := hid (fun (x : Nat) (h : Gr.kd b t l x ≠ 3) => (HS3.out x h).trans (Gr.put_kind (b := b) (t := t) (l := l) (first := first) (blocks := blocks) (S := Gr.newP b t l) (Q := P) h))
  have KG := hid (gget_any HG10.out Hv.out HS9.out first blocks Wf.out Wk.out)
  rw [hde.out] at KG
  have HYl := hid (Gr.getP_len S2 (Gr.datL b t l first blocks))
  go_wp2_with fail
  refine KG.out.mono ?_
  rintro r w11 ⟨⟨vy, rfl, hY⟩, B⟩
  obtain ⟨ay, cy, rfl, hcy⟩ := hY.cut
  rw [HYl.out] at hY hcy ⊢
  have HYv11 := hid (hY.vw.take P.length cy (by rw [HYl.out]; exact HPL.out))
  rw [HT1.out] at HYv11
  have hcP : P.length ≤ cy := Nat.le_trans HPL.out hcy
  clear hY KG
  have HC11 := hid (HC10.out.below B HC10.out.lt)
  have HB11 := hid (below_then HB10.out B)
  have hsz11 : w10.heap.size ≤ w11.heap.size := B.size
  have HG11 := hid (HG10.out.blw B)
  have HP11 := hid (HP10.out.below B (Nat.le_refl _))
  have HQ11 := hid (HQ10.out.below B (Nat.le_refl _))
  clear B HC10 HB10 c0 c1 c2 HG10 HP10 HQ10 
  have c0 : w11.cell? ⟨w.heap.size, 0, none⟩ = some (.int .i64 b) := HC11.out.cell 0
  have c1 : w11.cell? ⟨w.heap.size, 1, none⟩ = some (.int .i64 t) := HC11.out.cell 1
  have c2 : w11.cell? ⟨w.heap.size, 2, none⟩ = some (.int .i64 l) := HC11.out.cell 2
  have KS := hid (refSame17 w11 _ _ P P HYv11.out HP11.out.vw (by have := HPL.out; have := HLb.out; omega) (by have := HPL.out; have := HLb.out; omega))
  rw [decide_eq_true rfl] at KS
  have hPb : P.length ≤ 16800 := Nat.le_trans HPL.out HLb.out
  go_wp2_with (go_at_call 12; refine (num17_any _ _).mono ?_; rintro r w' ⟨rfl, rfl⟩)
  refine KS.out.mono ?_
  rintro r w12 ⟨rfl, m12, hw12⟩
  have B : Below w11.heap.size w11 w12 := by rw [hw12]; exact below_drewN _ _
  clear hw12 KS
  have HC12 := hid (HC11.out.below B HC11.out.lt)
  have HB12 := hid (below_then HB11.out B)
  have hsz12 : w11.heap.size ≤ w12.heap.size := B.size
  have HG12 := hid (HG11.out.blw B)
  have HP12 := hid (HP11.out.below B (Nat.le_refl _))
  have HQ12 := hid (HQ11.out.below B (Nat.le_refl _))
  have HYv12 := hid (HYv11.out.below B (Nat.le_refl _))
  clear B HC11 HB11 c0 c1 c2 HG11 HP11 HQ11 HYv11 
  have c0 : w12.cell? ⟨w.heap.size, 0, none⟩ = some (.int .i64 b) := HC12.out.cell 0
  have c1 : w12.cell? ⟨w.heap.size, 1, none⟩ = some (.int .i64 t) := HC12.out.cell 1
  have c2 : w12.cell? ⟨w.heap.size, 2, none⟩ = some (.int .i64 l) := HC12.out.cell 2
  obtain ⟨N, hN⟩ : ∃ N : Nat, (N : Int) = 168 * b := ⟨(168 * b).toNat, by omega⟩
  have hNt : (168 * b).toNat = N := by rw [← hN]; rfl
  rw [hNt] at HS9
  have KQ := hid (gpoints_any HG12.out (by rw [HS9.out]; omega) (by rw [HS9.out]; omega))
  have HSr := hid (fun (x : Nat) (hx : x < N) (h : Gr.kd b t l x = 1) => ((HSk.out x (by rw [h]; decide)).trans (Gr.new_ref (by rw [hNt]; exact hx) h) : S2.getD x (0, 0) = (1, 1)))
  have HSz := hid (fun (x : Nat) (h : Gr.kd b t l x = 2) => ((HSk.out x (by rw [h]; decide)).trans (Gr.new_zero (by rw [h]; decide)) : S2.getD x (0, 0) = (0, 0)))
  have HR9 := hid (show (Gr.sel (fun i => Gr.kd b t l i == 1) N).length = (8 * b).toNat by rw [← HR8.out]; unfold Gr.refL; rw [hNt])
  generalize S2 = S9 at *
  go_wp2_with fail
  refine KQ.out.mono ?_
  rintro r w13 ⟨⟨vz, rfl, hZ⟩, B⟩
  obtain ⟨az, cz, rfl⟩ := hZ.is_slice
  rw [HS9.out] at hZ ⊢
  have HZ := hid hZ.vw
  have HNb := hid (show N ≤ 16800 by omega)
  have h168 : 168 * b = (N : Int) := hN.symm
  have Hn168 := hid hN
  clear hZ KQ hN hNt
  have HC13 := hid (HC12.out.below B HC12.out.lt)
  have HB13 := hid (below_then HB12.out B)
  have hsz13 : w12.heap.size ≤ w13.heap.size := B.size
  have HG13 := hid (HG12.out.blw B)
  have HP13 := hid (HP12.out.below B (Nat.le_refl _))
  have HQ13 := hid (HQ12.out.below B (Nat.le_refl _))
  have HYv13 := hid (HYv12.out.below B (Nat.le_refl _))
  clear B HC12 HB12 c0 c1 c2 HG12 HP12 HQ12 HYv12 
  have c0 : w13.cell? ⟨w.heap.size, 0, none⟩ = some (.int .i64 b) := HC13.out.cell 0
  have c1 : w13.cell? ⟨w.heap.size, 1, none⟩ = some (.int .i64 t) := HC13.out.cell 1
  have c2 : w13.cell? ⟨w.heap.size, 2, none⟩ = some (.int .i64 l) := HC13.out.cell 2
  clear c0 c1 c2 dlt wr1
  go_wp2
  go_loopw [29, 30] (fun rf i wr => ∃ k : Nat, k ≤ N ∧ i = .int .i64 k ∧ rf = .int .i64 ((Gr.sel (fun i => Gr.kd b t l i == 1) k).length : Nat) ∧ Below w13.heap.size w13 wr) (fun _ i _ => N - (intOf i).toNat)
  case atStart => exact ⟨0, Nat.zero_le _, rfl, rfl, Below.refl _ _⟩
  case round =>
    obtain ⟨k, hk, rfl, rfl, hB⟩ := hrel
    have hCr := HC13.out.below hB HC13.out.lt
    have c0 : wr.cell? ⟨w.heap.size, 0, none⟩ = some (.int .i64 b) := hCr.cell 0
    have c1 : wr.cell? ⟨w.heap.size, 1, none⟩ = some (.int .i64 t) := hCr.cell 1
    have c2 : wr.cell? ⟨w.heap.size, 2, none⟩ = some (.int .i64 l) := hCr.cell 2
    have hNb := HNb.out
    have hsl := Gr.sel_len (fun i => Gr.kd b t l i == 1) k
    by_cases hlt : k < N
    · have HKk := hid (HK.out k (by have := Hn168.out; omega))
      have HY := hid (@Gr.sel_yes (fun i => Gr.kd b t l i == 1) k)
      have HNo := hid (@Gr.sel_no (fun i => Gr.kd b t l i == 1) k)
      have HBr := hid hB
      have h1 := HSr.out k hlt
      have h2 := HSz.out k
      have hcs := Gr.kd_cases b t l k
      generalize Gr.kd b t l (k : Nat) = z at *
      clear hB hCr
      go_wp2_with fail
      refine (HKk.out _).mono ?_
      rintro r wk ⟨rfl, B⟩
      have HBk := hid (below_then HBr.out B)
      obtain ⟨b1', o1, e1, hx, hy⟩ := (HZ.out.below HBk.out (Nat.le_refl _)).at (show k < S9.length by rw [HS9.out]; exact hlt)
      cases e1
      generalize S9.getD k (0, 0) = p at *
      obtain ⟨px, py⟩ := p
      dsimp only at hx hy
      clear B c0 c1 c2
      rcases hcs with rfl | rfl | rfl
      · have h3 := h1 rfl
        simp only [Prod.mk.injEq] at h3
        obtain ⟨rfl, rfl⟩ := h3
        clear h1 h2
        go_wp2_with (go_at_call 12; refine (num17_any _ _).mono ?_; rintro r w' ⟨rfl, rfl⟩)
        go_roundw
        case rel => exact ⟨k + 1, by omega, by go_num, by rw [HY.out rfl]; simp, HBk.out⟩
        case measure => simp [intOf]; omega
      · have h3 := h2 rfl
        simp only [Prod.mk.injEq] at h3
        obtain ⟨rfl, rfl⟩ := h3
        clear h1 h2
        go_wp2_with (go_at_call 12; refine (num17_any _ _).mono ?_; rintro r w' ⟨rfl, rfl⟩)
        go_roundw
        case rel => exact ⟨k + 1, by omega, by go_num, by rw [HNo.out rfl], HBk.out⟩
        case measure => simp [intOf]; omega
      · clear h1 h2
        go_wp2_with (go_at_call 12; refine (num17_any _ _).mono ?_; rintro r w' ⟨rfl, rfl⟩)
        go_roundw
        case rel => exact ⟨k + 1, by omega, by go_num, by rw [HNo.out rfl], HBk.out⟩
        case measure => simp [intOf]; omega
    · obtain rfl : N = k := by omega
      have HBr := hid (below_then HB13.out hB)
      have hr8 := HR9.out
      generalize (Gr.sel (fun i => Gr.kd b t l i == 1) N).length = R at *
      have hR8' : 8 * b = (R : Int) := by omega
      have hRb : (R : Int) ≤ 100000 := by omega
      clear hB hCr hsl hNb hPb hk hlt hr8 h168 hRb
      have h168 : 168 * b = (N : Int) := Hn168.out.symm
      go_wp2_with fail
      refine (works17 _).mono ?_
      rintro r wz ⟨rfl, B⟩
      go_wp2
      go_ret
      exact ⟨rfl, below_then HBr.out B⟩
theorem law_GridHolds (b t l first blocks m n seed : Int) (wb : (Lit.int .i64 b).wf = true) (wt : (Lit.int .i64 t).wf = true) (wl : (Lit.int .i64 l).wf = true) (wf : (Lit.int .i64 first).wf = true) (wk : (Lit.int .i64 blocks).wf = true) (wm : (Lit.int .i64 m).wf = true) (wn : (Lit.int .i64 n).wf = true) (ws : (Lit.int .i64 seed).wf = true) (w : World) :
    Calls Try.prog 7 #[CV b t l, .int .i64 first, .int .i64 blocks, .int .i64 m, .int .i64 n, .int .i64 seed] w fun e w' => e = .returned (.bool true) ∧ Below w.heap.size w w' := by
  cases hv : Gr.vld b t l with
  | false => exact holds_bad b t l first blocks m n seed hv w
  | true =>
    cases hd : Gr.datOk b t l first blocks with
    | false => exact holds_range b t l first blocks m n seed hv hd wf wk w
    | true =>
      by_cases ho : first + blocks < b
      · exact holds_two b t l first blocks m n seed hv hd ho wf wk w
      · exact holds_one b t l first blocks m n seed hv hd (by omega) wf wk w
end Go.Proofs.Ytighnjbcnfnpmaa

/- userplanelaw18.NoiseOutputs. -/
import Derived.Test.YtngggknejkcepaaLaws18a
namespace Go.Proofs.Ytngggknejkcepaa
open Go.RowKit Go.Shelf
set_option linter.unusedVariables false
attribute [local go_sem] Oper.semAt_some
attribute [local go_sem ↓] Go.wp_at_zero Go.wp_at_succ
/-- A function with two ranges over functions returns. -/
theorem bodyPostM_ret2 {F : Fence} {n : Nat} {P : Program} {fn : Func} {R : Ending → World → Prop} {a : Act} {w : World} {D1 D2 : Nat} {v : Value} (hK1 : w.heap[D1]? = some (.deferred (some []))) (hK2 : w.heap[D2]? = some (.deferred (some []))) (hne : D2 ≠ D1)
    (hd : a.defers = [{ target := .collected D1, args := #[] }, { target := .collected D2, args := #[] }])
    (hr : (results fn a.tmps).run P ((w.putObj D1 (.deferred none)).putObj D2 (.deferred none)) = .ok v ((w.putObj D1 (.deferred none)).putObj D2 (.deferred none))) (hR : R (.returned v) ((w.putObj D1 (.deferred none)).putObj D2 (.deferred none))) : bodyPostM F n P fn R .ret a w := by
  show LeavesInM F n P fn a.tmps R a.defers .returning w
  rw [hd]
  exact ⟨by simp, .inl ⟨D1, _, rfl, run_takeDeferred hK1, ⟨by simp, .inl ⟨D2, _, rfl, run_takeDeferred ((World.putObj_heap_other hne).trans hK2), ⟨v, hr, hR⟩⟩⟩⟩⟩
theorem out_post {V1 W : World} {xb kb st y' : Nat} {u u' : Value} (hX : RB V1 xb 0 0 0 st) (hK : Blk V1 kb 3 #[u]) (hne : ¬ xb = kb)
    (hW : (((((V1.setCell ⟨xb, 0, none⟩ (.int .i64 0)).setCell ⟨xb, 1, none⟩ (.int .i64 0)).setCell ⟨xb, 2, none⟩ (.int .i64 0)).setCell ⟨xb, 3, none⟩ (.int .u64 (y' : Nat))).setCell ⟨kb, 0, none⟩ u') = W) :
    RB W xb 0 0 0 y' ∧ Blk W kb 3 #[u'] ∧ Fr (fun j => j = xb ∨ j = kb) V1 W := by
  subst hW
  have h1 := RB.sto' (f := 0) (e := 0) (s := 0) (y := y') hX rfl
  have F2 : ∀ (X : World), Fr (fun j => j = kb) X (X.setCell ⟨kb, 0, none⟩ u') := fun X => Fr.setCell (S := fun j => j = kb) X ⟨kb, 0, none⟩ u' rfl
  exact ⟨h1.1.fr (F2 _) hne, (hK.fr h1.2 (fun e => hne e.symm)).set_ 0 u', (h1.2.mono (fun j _ e => .inl e)).trans ((F2 _).mono (fun j _ e => .inr e))⟩
set_option maxRecDepth 100000 in
set_option maxHeartbeats 8000000 in
theorem law_NoiseOutputs (x c m : Int) (wx : (Lit.int .u64 x).wf = true) (wc : (Lit.int .i64 c).wf = true) (wm : (Lit.int .i64 m).wf = true) (w : World) :
    Calls Try.prog 4 #[.int .u64 x, .int .i64 c, .int .i64 m] w fun e w' => e = .returned (.bool true) ∧ Below w.heap.size w w' := by
  obtain ⟨x, rfl, hx⟩ := wf_u64' wx
  clear wx
  have hnil : ∀ w (p q : Value), (binOp .eql 45 (.func (.func 38) #[] #[p, q]) .nilFunc).run Try.prog w = .ok (.bool false) w := fun _ _ _ => by kernel_rfl
  by_cases hbig : 500 < c
  · clear wc wm hx
    refine calls_of_wp_marks Try.func4 rfl ?_
    simp only [Try.ntmps4, List.size_toArray, List.length_cons, List.length_nil, Nat.reduceAdd, Nat.reduceSub, Array.replicate_succ, Array.replicate_zero, List.push_toArray, List.append_toArray, List.nil_append, List.cons_append]
    go_wp2_with fail
    refine (works18 _).mono ?_
    rintro r w1 ⟨rfl, B1⟩
    have HR := hid (show Blk w1 (w.heap.size + 1 + 1) 4 #[.bool false] from Blk.below (by have := Blk.new ((w.alloc (.cells #[.int .i64 c] 3)).alloc (.cells #[.int .i64 m] 3)) 4 #[.bool false]; rw [World.size_alloc, World.size_alloc] at this; exact this) B1 (by simp))
    have c0 : w1.cell? ⟨w.heap.size + 1 + 1, 0, none⟩ = some (.bool false) := HR.out.cell 0
    have f0 : w1.frozen? ⟨w.heap.size + 1 + 1, 0, none⟩ = false := HR.out.frozen 0
    have HB := hid (up_alloc (up_alloc (up_alloc B1)))
    clear B1
    go_wp2
    have F : Fr (fun k => k = w.heap.size + 1 + 1) w1 (w1.setCell ⟨w.heap.size + 1 + 1, 0, none⟩ (.bool true)) := Fr.setCell (S := fun k => k = w.heap.size + 1 + 1) _ ⟨w.heap.size + 1 + 1, 0, none⟩ _ rfl
    have kE := (HR.out.set_ 0 (.bool true)).cell 0
    simp only [List.setIfInBounds_toArray, List.set_cons_zero, List.getElem?_toArray, List.getElem?_cons_zero] at kE
    exact bodyPostM_ret0 rfl (v := .bool true) (by simp [results, Try.results4, go_sem, kE]) ⟨rfl, HB.out.trans (F.below HB.out.size (fun j hj e => by omega))⟩
  obtain ⟨n, hn⟩ : ∃ n, n = c.toNat := ⟨_, rfl⟩
  obtain ⟨M, hM⟩ : ∃ M : Nat, (M : Int) = if 1 < m then m else 1 := ⟨(if 1 < m then m else 1).toNat, by split <;> omega⟩
  have hc1 : ¬ 500 < c := hbig
  have hcx := hid (show (if 0 < c then c else 0) = (n : Int) by split <;> omega)
  have hmx := hid hM.symm
  have hM1 : 1 ≤ M := by split at hM <;> omega
  have hMm := hid (show ∀ k : Nat, (decide (m ≤ ((k : Int) + 1)) = true ↔ M ≤ k + 1) from fun k => by rw [decide_eq_true_iff]; split at hM <;> omega)
  have hcn := hid (show ∀ k : Nat, k < n → decide (c ≤ (k : Int)) = false from fun k hk => decide_eq_false (by omega))
  have hn5 : n ≤ 500 := by omega
  have HM := hid (show ∀ w, Calls Try.prog 10 #[.agg #[.int .i64 0, .int .i64 0, .int .i64 0], .int .u64 (x : Nat)] w _ from fun w => made_ok w 0 0 0 x ch0 hx)
  have hy0 := Noi.seed0_pos x
  have hyM := hid (Noi.seed0_lt hx)
  generalize Noi.seed0 x = y at *
  have HNn := hid hn
  clear hx wc wm hbig hM hn
  refine calls_of_wp_marks Try.func4 rfl ?_
  simp only [Try.ntmps4, List.size_toArray, List.length_cons, List.length_nil, Nat.reduceAdd, Nat.reduceSub, Array.replicate_succ, Array.replicate_zero, List.push_toArray, List.append_toArray, List.nil_append, List.cons_append]
  go_wp2_with fail
  refine (HM.out _).mono ?_
  rintro r w1 ⟨⟨g, rfl, N1, hg⟩, B1⟩
  have B1' := up_alloc (up_alloc (up_alloc B1))
  have HA1 := hid (show Blk w1 w.heap.size 3 #[.int .i64 c] from Blk.below ((Blk.new w _ _).fr (((Fr.alloc (fun _ => False) _ _)).trans (Fr.alloc (fun _ => False) _ _)) (fun h => h)) B1 (by simp; omega))
  have HC1 := hid (show Blk w1 (w.heap.size + 1) 3 #[.int .i64 m] from Blk.below (Blk.fr (by have := Blk.new (w.alloc (.cells #[.int .i64 c] 3)) 3 #[.int .i64 m]; rw [World.size_alloc] at this; exact this) (Fr.alloc (fun _ => False) _ _) (fun h => h)) B1 (by simp))
  have HE1 := hid (show Blk w1 (w.heap.size + 1 + 1) 4 #[.bool false] from Blk.below (by have := Blk.new ((w.alloc (.cells #[.int .i64 c] 3)).alloc (.cells #[.int .i64 m] 3)) 4 #[.bool false]; rw [World.size_alloc, World.size_alloc] at this; exact this) B1 (by simp))
  have hg2 : w.heap.size + 2 < g := by simp at hg; omega
  have hgl := N1.lt
  have HN1 := hid N1
  have HB1 := hid B1'
  clear B1 B1' N1 hg HM
  have c0 : w1.cell? ⟨w.heap.size, 0, none⟩ = some (.int .i64 c) := HA1.out.cell 0
  have hl0 : w.heap.size < w1.heap.size := HA1.out.lt
  go_wp2_with fail
  have F : Fr (fun _ => False) w1 (w1.alloc (.cells #[.int .i64 0, .int .i64 0, .int .i64 0, .int .u64 (y : Nat)] 28)) := Fr.alloc _ _ _
  have HR1 := hid (show RB _ w1.heap.size 0 0 0 y from Blk.new w1 _ _)
  generalize World.alloc _ _ = wA at *
  have HNA := hid (HN1.out.fr F (fun h => h))
  have HAA := hid (HA1.out.fr F (fun h => h))
  have HCA := hid (HC1.out.fr F (fun h => h))
  have HEA := hid (HE1.out.fr F (fun h => h))
  have HBA := hid (HB1.out.trans (F.below HB1.out.size (fun _ _ h => h)))
  have hwA : w1.heap.size < wA.heap.size := HR1.out.lt
  have HRA := hid HR1.out
  clear F HN1 HA1 HC1 HE1 HB1 HR1 c0 hl0
  refine (outputs_any wA g y 0 0 0 HNA.out hy0 c).mono ?_
  rintro r wB ⟨rfl, hwB⟩
  have e1 : wB.heap.size = wA.heap.size + 2 := by rw [hwB]; simp
  have F : Fr (fun _ => False) wA wB := by rw [hwB]; exact (Fr.alloc _ _ _).trans (Fr.alloc _ _ _)
  have HO1 := hid (show Blk wB (wA.heap.size + 1) 70 #[.int .u64 (y : Nat)] by rw [hwB]; have := (Blk.new (wA.alloc (.cells #[.int .i64 c] 3)) 70 #[.int .u64 (y : Nat)]); rw [World.size_alloc] at this; exact this)
  have HO2 := hid (show Blk wB wA.heap.size 3 #[.int .i64 c] by rw [hwB]; exact (Blk.new wA 3 #[.int .i64 c]).fr (Fr.alloc (fun _ => False) _ _) (fun h => h))
  have HNB := hid (HNA.out.fr F (fun h => h))
  have HAB := hid (HAA.out.fr F (fun h => h))
  have HCB := hid (HCA.out.fr F (fun h => h))
  have HEB := hid (HEA.out.fr F (fun h => h))
  have HRB := hid (HRA.out.fr F (fun h => h))
  have HBB := hid (HBA.out.trans (F.below HBA.out.size (fun _ _ h => h)))
  have he1 := hid e1
  clear hwB F HNA HAA HCA HEA HRA HBA e1
  have HSt := hid (fun W (h : Below wB.heap.size wB W) => state_any W g y 0 0 0 (HNB.out.below h HNB.out.lt) hy0)
  have B0 : Below wB.heap.size wB wB.drew := below_drewN wB 1
  have HS := hid (show ∀ W, Below wB.heap.size wB W → W.cell? ⟨w1.heap.size, 3, none⟩ = some (.int .u64 (y : Nat)) from fun W hW => (HRB.out.below hW HRB.out.lt).c.1.2.2.2)
  go_wp2
  go_region_held3 (fun W => W.cell? ⟨w1.heap.size, 3, none⟩ = some (.int .u64 (y : Nat))) (exact HS.out _ (by assumption))
    ((go_at_call 18; (with_reducible refine (HSt.out _ (by assumption)).mono ?_); rintro r wc ⟨rfl, rfl⟩))
  have HND := hid (HNB.out.below B0 HNB.out.lt)
  have hsB : wB.heap.size ≤ wB.drew.heap.size := B0.size
  go_wp2_with fail
  refine (lost_any _ g y 0 0 0 ch0 HND.out hy0 hyM.out).mono ?_
  rintro r wC ⟨rfl, N3, F3⟩
  generalize (Noi.evt 0 0 (Noi.step y) != 0) = lost0
  have F : Fr (fun j => j = g) wB wC := (Fr.drew _ _).trans F3
  have HNC := hid N3
  have := he1.out
  have HAC := hid (HAB.out.fr F (by omega))
  have HCC := hid (HCB.out.fr F (by omega))
  have HEC := hid (HEB.out.fr F (by omega))
  have HRC := hid (HRB.out.fr F (by omega))
  have HO1C := hid (HO1.out.fr F (by omega))
  have HO2C := hid (HO2.out.fr F (by omega))
  have HBC := hid (HBB.out.trans (F.below HBB.out.size (fun j hj e => by omega)))
  have hsC : wB.heap.size ≤ wC.heap.size := F.size
  have hgC := HNC.out.lt
  clear this N3 F3 F HND HSt B0 HS HNB HAB HCB HEB HRB HO1 HO2 HBB hsB
  have HIT := hid (outputs1_iter y c (wA.heap.size + 1) wA.heap.size hyM.out hy0 (by omega) (fun j => j = wA.heap.size ∨ j = wA.heap.size + 1) (.inr rfl) (.inl rfl) wC (HO1C.out.cell 0) (HO2C.out.cell 0) (fun j hj => by have := HO1C.out.lt; omega))
  rw [← HNn.out] at HIT
  have hsO : wA.heap.size + 1 < wC.heap.size := HO1C.out.lt
  clear HO1C HO2C
  -- what lies below wC
  have HK := hid (show ∀ W, Below wC.heap.size wC W → W.cell? ⟨w.heap.size, 0, none⟩ = some (.int .i64 c) ∧ W.cell? ⟨w.heap.size + 1, 0, none⟩ = some (.int .i64 m) ∧ W.cell? ⟨w1.heap.size, 0, none⟩ = some (.int .i64 0) ∧ W.cell? ⟨w1.heap.size, 1, none⟩ = some (.int .i64 0) ∧ W.cell? ⟨w1.heap.size, 2, none⟩ = some (.int .i64 0) ∧ W.cell? ⟨w1.heap.size, 3, none⟩ = some (.int .u64 (y : Nat)) from fun W hW =>
    ⟨(HAC.out.below hW HAC.out.lt).cell 0, (HCC.out.below hW HCC.out.lt).cell 0, (HRC.out.below hW HRC.out.lt).c.1⟩)
  go_wp2
  generalize hW : World.alloc _ _ = w0
  have HT0 := hid (show Blk w0 wC.heap.size 3 #[.int .i64 0] by rw [← hW]; exact Blk.new wC _ _)
  have HB0 := hid (show Below wC.heap.size wC w0 by rw [← hW]; exact below_alloc _ _)
  clear hW
  refine wp_loop_rounds 3 ?_
  rw [rounds_succ]
  have q0 : w0.cell? ⟨wC.heap.size, 0, none⟩ = some (.int .i64 0) := HT0.out.cell 0
  obtain ⟨c0, c1, d0, d1, d2, d3⟩ := HK.out _ HB0.out
  go_wp2_with fail
  generalize hW : World.alloc _ _ = wR0
  have F : Fr (fun _ => False) w0 wR0 := by rw [← hW]; exact (Fr.alloc _ _ _).trans (Fr.alloc _ _ _)
  have HX0 := hid (show RB wR0 w0.heap.size 0 0 0 y by rw [← hW]; exact Blk.fr (Blk.new w0 _ _) (Fr.alloc (fun _ => False) _ _) (fun h => h))
  have HN0 := hid (show Blk wR0 (w0.heap.size + 1) 3 #[.int .i64 (0 : Nat)] by rw [← hW]; have := Blk.new (w0.alloc (.cells #[.int .i64 0, .int .i64 0, .int .i64 0, .int .u64 (y : Nat)] 28)) 3 #[.int .i64 (0 : Nat)]; rw [World.size_alloc] at this; exact this)
  have HTR0 := hid (HT0.out.fr F (fun h => h))
  skip
  have HBR0 := hid (HB0.out.trans (F.below HB0.out.size (fun _ _ h => h)))
  have hsR0 : w0.heap.size + 1 < wR0.heap.size := HN0.out.lt
  have htb0 : wC.heap.size < w0.heap.size := HT0.out.lt
  clear hW F q0 c0 c1 d0 d1 d2 d3
  refine (wpIn_wide (n := 1)).1 ?_
  refine wpIn_range (gf := 38) (lb := #[.pointer (some ⟨wA.heap.size + 1, 0, none⟩), .pointer (some ⟨wA.heap.size, 0, none⟩)]) rfl (enters_of Try.func38 (by kernel_rfl) rfl) HIT.out HBR0.out (fun _ => rfl)
    (fun k V => RB V w0.heap.size 0 0 0 (Noi.stN y k) ∧ Blk V (w0.heap.size + 1) 3 #[.int .i64 (k : Nat)] ∧ Blk V wC.heap.size 3 #[.int .i64 0] ∧ Below wC.heap.size wC V ∧ (k = 0 ∨ k < M) ∧ wR0.heap.size ≤ V.heap.size)
    (fun k c V => c = .exit 2 ∧ Blk V (w0.heap.size + 1) 3 #[.int .i64 (k : Nat)] ∧ Blk V wC.heap.size 3 #[.int .i64 0] ∧ Below wC.heap.size wC V ∧ (k = M ∧ k ≤ n) ∧ wR0.heap.size ≤ V.heap.size)
    (fun k A V h hf => ⟨h.1.fr hf (by omega), h.2.1.fr hf (by omega), h.2.2.1.fr hf (by omega), h.2.2.2.1.trans (hf.below h.2.2.2.1.size (fun j hj h' => by omega)), h.2.2.2.2.1, Nat.le_trans h.2.2.2.2.2 hf.size⟩)
    (fun k c A V h hf => ⟨h.1, h.2.1.fr hf (by omega), h.2.2.1.fr hf (by omega), h.2.2.2.1.trans (hf.below h.2.2.2.1.size (fun j hj h2 => by omega)), h.2.2.2.2.1, Nat.le_trans h.2.2.2.2.2 hf.size⟩)
    ⟨HX0.out, HN0.out, HTR0.out, HBR0.out, .inl rfl, Nat.le_refl _⟩ (fun h => by cases h) ?a10 ?assign0 ?body0 ?done0 ?stop0
  case assign0 =>
    intro l k V K hK
    gi_wp2
    exact hK
  case body0 =>
    rintro l k V hk ⟨hX, hKk, hT, hB, hcond, hVs2⟩ hVs
    have hlt := hk n rfl
    have hst := Noi.stN_lt hyM.out k
    have hge := hcn.out k hlt
    have HX2 := hid (show Noi.stN y (k + 1) = Noi.step (Noi.stN y k) from rfl)
    obtain ⟨c0, c1, -⟩ := HK.out _ hB
    obtain ⟨⟨d0, d1, d2, d3⟩, -⟩ := hX.c
    have q0 : V.cell? ⟨wC.heap.size, 0, none⟩ = some (.int .i64 0) := hT.cell 0
    rw [HX2.out]
    generalize Noi.stN y k = st at *
    have HSp := hid (fun w => refStep_any w 0 0 0 st hst)
    have HX := hid hX
    have HKk := hid hKk
    have HT := hid hT
    have HB := hid hB
    have Hc := hid hcond
    have HVs := hid hVs2
    have Hlt := hid hlt
    have hk5 : k ≤ 500 := by omega
    clear hX hKk hT hB hcond hk hst HIT hVs2 hlt
    gi_wp2
    refine ⟨trivial, rfl, CallsIn.inRound _ (callsIn_wide.2 ((HSp.out _).mono ?_))⟩
    rintro r V1 ⟨rfl, B1⟩
    have HX1 := hid (HX.out.below B1 HX.out.lt)
    have HK1 := hid (HKk.out.below B1 HKk.out.lt)
    have HT1 := hid (HT.out.below B1 HT.out.lt)
    have HB1 := hid (below_then HB.out B1)
    have hs1 : V.heap.size ≤ V1.heap.size := B1.size
    have hVV := HVs.out
    have hKT := hid (show KeepT (fun b => (b = wA.heap.size ∨ b = wA.heap.size + 1) ∨ (wR0.heap.size ≤ b ∧ b < wR0.heap.size + 2 + 1)) V V1 from ⟨hs1, fun j hj _ => B1.block j hj⟩)
    clear c0 c1 d0 d1 d2 d3 q0
    obtain ⟨c0, c1, -⟩ := HK.out _ HB1.out
    obtain ⟨⟨d0, d1, d2, d3⟩, fz⟩ := HX1.out.c
    have f0 := fz 0
    have f1 := fz 1
    have f2 := fz 2
    have f3 := fz 3
    have k0 : V1.cell? ⟨w0.heap.size + 1, 0, none⟩ = some (.int .i64 k) := HK1.out.cell 0
    have kf : V1.frozen? ⟨w0.heap.size + 1, 0, none⟩ = false := HK1.out.frozen 0
    have q0 : V1.cell? ⟨wC.heap.size, 0, none⟩ = some (.int .i64 0) := HT1.out.cell 0
    skip
    clear fz B1
    have n1 : ¬ w0.heap.size = w0.heap.size + 1 := by omega
    have n2 : ¬ w0.heap.size + 1 = w0.heap.size := by omega
    have n3 : ¬ wC.heap.size = w0.heap.size := by omega
    have n4 : ¬ wC.heap.size = w0.heap.size + 1 := by omega
    have n5 : ¬ w.heap.size = w0.heap.size := by omega
    have n6 : ¬ w.heap.size = w0.heap.size + 1 := by omega
    have n7 : ¬ w.heap.size + 1 = w0.heap.size := by omega
    have n8 : ¬ w.heap.size + 1 = w0.heap.size + 1 := by omega
    by_cases hbr : M ≤ k + 1
    · have hd : decide (m ≤ (k : Int) + 1) = true := (hMm.out k).2 hbr
      have Hbr := hid hbr
      clear hbr
      gi_wp2
      generalize hW : World.setCell _ _ _ = W5
      obtain ⟨hX5, hK5, hF5⟩ := out_post HX1.out HK1.out (by omega) hW
      have hlt := Hlt.out
      have hbr := Hbr.out
      have hcd := Hc.out
      exact ⟨hKT.out.trans (KeepT.of_fr hF5 (fun j hj h => by omega)), rfl, hK5, HT1.out.fr hF5 (by omega), HB1.out.trans (hF5.below HB1.out.size (fun j hj h => by omega)), ⟨by omega, by omega⟩, Nat.le_trans (Nat.le_trans hVV hs1) hF5.size⟩
    · have hd : decide (m ≤ (k : Int) + 1) = false := by cases h : decide (m ≤ (k : Int) + 1); rfl; exact absurd ((hMm.out k).1 h) hbr
      have Hbr := hid hbr
      clear hbr
      gi_wp2
      generalize hW : World.setCell _ _ _ = W5
      obtain ⟨hX5, hK5, hF5⟩ := out_post HX1.out HK1.out (by omega) hW
      have hbr := Hbr.out
      exact ⟨hKT.out.trans (KeepT.of_fr hF5 (fun j hj h => by omega)), by rw [HX2.out]; exact hX5, hK5, HT1.out.fr hF5 (by omega), HB1.out.trans (hF5.below HB1.out.size (fun j hj h => by omega)), .inr (by omega), Nat.le_trans (Nat.le_trans hVV hs1) hF5.size⟩
  case done0 =>
    rintro D0 n' V0 hn' ⟨hX, hKk, hT, hB, hcond, hVs⟩ hD hDl
    obtain rfl : n = n' := by cases hn'; rfl
    have hmin := hid (show (if M < n then (M : Int) else (n : Int)) = ((n : Nat) : Int) by split <;> omega)
    have HKV0 := hid hKk
    have HTV0 := hid hT
    have HBV0 := hid hB
    have HD0 := hid hD
    have hsV0 := hVs
    clear hX hcond
    clear hKk hT hB hD hVs
    obtain ⟨c0, c1, -⟩ := HK.out _ HBV0.out
    have q0 : V0.cell? ⟨wC.heap.size, 0, none⟩ = some (.int .i64 0) := HTV0.out.cell 0
    have qf : V0.frozen? ⟨wC.heap.size, 0, none⟩ = false := HTV0.out.frozen 0
    have k0 : V0.cell? ⟨w0.heap.size + 1, 0, none⟩ = some (.int .i64 n) := HKV0.out.cell 0
    have m1 := hcx.out
    have m2 := hmx.out
    have m3 := hmin.out
    go_wp2_with fail
    generalize hW : World.alloc _ _ = wT
    have HT1 := hid (show Blk wT V0.heap.size 3 #[.int .i64 1] by rw [← hW]; exact Blk.new V0 _ _)
    have F : Fr (fun _ => False) V0 wT := by rw [← hW]; exact Fr.alloc _ _ _
    have HB1 := hid (HBV0.out.trans (F.below HBV0.out.size (fun _ _ h => h)))
    have HDT := hid ((F.block D0 (Array.getElem?_eq_some_iff.1 HD0.out).1 (fun h => h)).trans HD0.out)
    have hD0l := (Array.getElem?_eq_some_iff.1 HD0.out).1
    clear hW F c0 c1 q0 qf k0 m1 m2 m3 HTV0 HKV0
    rw [rounds_succ]
    have q0 : wT.cell? ⟨V0.heap.size, 0, none⟩ = some (.int .i64 1) := HT1.out.cell 0
    obtain ⟨c0, c1, d0, d1, d2, d3⟩ := HK.out _ HB1.out
    go_wp2_with fail
    generalize hW : World.alloc _ _ = wR1
    have F : Fr (fun _ => False) wT wR1 := by rw [← hW]; exact (Fr.alloc _ _ _).trans (Fr.alloc _ _ _)
    have HX1 := hid (show RB wR1 wT.heap.size 0 0 0 y by rw [← hW]; exact Blk.fr (Blk.new wT _ _) (Fr.alloc (fun _ => False) _ _) (fun h => h))
    have HN1 := hid (show Blk wR1 (wT.heap.size + 1) 3 #[.int .i64 (0 : Nat)] by rw [← hW]; have := Blk.new (wT.alloc (.cells #[.int .i64 0, .int .i64 0, .int .i64 0, .int .u64 (y : Nat)] 28)) 3 #[.int .i64 (0 : Nat)]; rw [World.size_alloc] at this; exact this)
    have HTR1 := hid (HT1.out.fr F (fun h => h))
    have HDR1 := hid ((F.block D0 (Array.getElem?_eq_some_iff.1 HDT.out).1 (fun h => h)).trans HDT.out)
    have HBR1 := hid (HB1.out.trans (F.below HB1.out.size (fun _ _ h => h)))
    have hsR1 : wT.heap.size + 1 < wR1.heap.size := HN1.out.lt
    have htb1 : V0.heap.size < wT.heap.size := HT1.out.lt
    clear hW F q0 c0 c1 d0 d1 d2 d3
    refine (wpIn_wide (n := 1)).1 ?_
    refine wpIn_range (gf := 38) (lb := #[.pointer (some ⟨wA.heap.size + 1, 0, none⟩), .pointer (some ⟨wA.heap.size, 0, none⟩)]) rfl (enters_of Try.func38 (by kernel_rfl) rfl) HIT.out HBR1.out (fun _ => rfl)
      (fun k V => RB V wT.heap.size 0 0 0 (Noi.stN y k) ∧ Blk V (wT.heap.size + 1) 3 #[.int .i64 (k : Nat)] ∧ Blk V V0.heap.size 3 #[.int .i64 1] ∧ Below wC.heap.size wC V ∧ V.heap[D0]? = some (.deferred (some [])) ∧ wR1.heap.size ≤ V.heap.size)
      (fun k c V => False)
      (fun k A V h hf => ⟨h.1.fr hf (by omega), h.2.1.fr hf (by omega), h.2.2.1.fr hf (by omega), h.2.2.2.1.trans (hf.below h.2.2.2.1.size (fun j hj h' => by omega)), (hf.block D0 (Array.getElem?_eq_some_iff.1 h.2.2.2.2.1).1 (by omega)).trans h.2.2.2.2.1, Nat.le_trans h.2.2.2.2.2 hf.size⟩)
      (fun k c A V h hf => h)
      ⟨HX1.out, HN1.out, HTR1.out, HBR1.out, HDR1.out, Nat.le_refl _⟩ (fun h => by cases h) ?a11x ?assign1x ?body1x ?done1x (fun _ _ _ _ h => h.elim)
    case assign1x =>
      intro l k V K hK
      gi_wp2
      exact hK
    case body1x =>
      rintro l k V hk ⟨hX, hKk, hT, hB, hcond, hVs2⟩ hVs
      have hlt := hk n rfl
      have hst := Noi.stN_lt hyM.out k
      have hge := hcn.out k hlt
      have HX2 := hid (show Noi.stN y (k + 1) = Noi.step (Noi.stN y k) from rfl)
      obtain ⟨c0, c1, -⟩ := HK.out _ hB
      obtain ⟨⟨d0, d1, d2, d3⟩, -⟩ := hX.c
      have q0 : V.cell? ⟨V0.heap.size, 0, none⟩ = some (.int .i64 1) := hT.cell 0
      rw [HX2.out]
      generalize Noi.stN y k = st at *
      have HSp := hid (fun w => refStep_any w 0 0 0 st hst)
      have HX := hid hX
      have HKk := hid hKk
      have HT := hid hT
      have HB := hid hB
      have Hc := hid hcond
      have HVs := hid hVs2
      have Hlt := hid hlt
      have hk5 : k ≤ 500 := by omega
      clear hX hKk hT hB hcond hk hst HIT hVs2 hlt
      gi_wp2
      refine ⟨trivial, rfl, CallsIn.inRound _ (callsIn_wide.2 ((HSp.out _).mono ?_))⟩
      rintro r V1 ⟨rfl, B1⟩
      have HX1 := hid (HX.out.below B1 HX.out.lt)
      have HK1 := hid (HKk.out.below B1 HKk.out.lt)
      have HT1 := hid (HT.out.below B1 HT.out.lt)
      have HB1 := hid (below_then HB.out B1)
      have hs1 : V.heap.size ≤ V1.heap.size := B1.size
      have hVV := HVs.out
      have hKT := hid (show KeepT (fun b => (b = wA.heap.size ∨ b = wA.heap.size + 1) ∨ (wR1.heap.size ≤ b ∧ b < wR1.heap.size + 2 + 1)) V V1 from ⟨hs1, fun j hj _ => B1.block j hj⟩)
      clear c0 c1 d0 d1 d2 d3 q0
      obtain ⟨c0, c1, -⟩ := HK.out _ HB1.out
      obtain ⟨⟨d0, d1, d2, d3⟩, fz⟩ := HX1.out.c
      have f0 := fz 0
      have f1 := fz 1
      have f2 := fz 2
      have f3 := fz 3
      have k0 : V1.cell? ⟨wT.heap.size + 1, 0, none⟩ = some (.int .i64 k) := HK1.out.cell 0
      have kf : V1.frozen? ⟨wT.heap.size + 1, 0, none⟩ = false := HK1.out.frozen 0
      have q0 : V1.cell? ⟨V0.heap.size, 0, none⟩ = some (.int .i64 1) := HT1.out.cell 0
      have HDB := hid ((B1.block D0 (Array.getElem?_eq_some_iff.1 Hc.out).1).trans Hc.out)
      clear fz B1
      have n1 : ¬ wT.heap.size = wT.heap.size + 1 := by omega
      have n2 : ¬ wT.heap.size + 1 = wT.heap.size := by omega
      have n3 : ¬ V0.heap.size = wT.heap.size := by omega
      have n4 : ¬ V0.heap.size = wT.heap.size + 1 := by omega
      have n5 : ¬ w.heap.size = wT.heap.size := by omega
      have n6 : ¬ w.heap.size = wT.heap.size + 1 := by omega
      have n7 : ¬ w.heap.size + 1 = wT.heap.size := by omega
      have n8 : ¬ w.heap.size + 1 = wT.heap.size + 1 := by omega
      gi_wp2
      generalize hW : World.setCell _ _ _ = W5
      obtain ⟨hX5, hK5, hF5⟩ := out_post HX1.out HK1.out (by omega) hW
      exact ⟨hKT.out.trans (KeepT.of_fr hF5 (fun j hj h => by omega)), by rw [HX2.out]; exact hX5, hK5, HT1.out.fr hF5 (by omega), HB1.out.trans (hF5.below HB1.out.size (fun j hj h => by omega)), (hF5.block D0 (Array.getElem?_eq_some_iff.1 HDB.out).1 (by omega)).trans HDB.out, Nat.le_trans (Nat.le_trans hVV hs1) hF5.size⟩
    case done1x =>
      rintro D1 n' V1 hn' ⟨hX, hKk, hT, hB, hcond, hVs⟩ hD hDl
      obtain rfl : n = n' := by cases hn'; rfl
      have HKV1 := hid hKk
      have HTV1 := hid hT
      have HBV1 := hid hB
      have HD1 := hid hD
      have hsV1 := hVs
      have HDV := hid hcond
      clear hX hcond
      clear hKk hT hB hD hVs
      obtain ⟨c0, c1, -⟩ := HK.out _ HBV1.out
      have q0 : V1.cell? ⟨V0.heap.size, 0, none⟩ = some (.int .i64 1) := HTV1.out.cell 0
      have qf : V1.frozen? ⟨V0.heap.size, 0, none⟩ = false := HTV1.out.frozen 0
      have k0 : V1.cell? ⟨wT.heap.size + 1, 0, none⟩ = some (.int .i64 n) := HKV1.out.cell 0
      have m1 := hcx.out
      have m2 := hmx.out
      go_wp2_with fail
      rw [rounds_succ]
      go_wp2_with fail
      generalize hW : World.alloc _ _ = wE
      have F : Fr (fun _ => False) V1 wE := by rw [← hW]; exact Fr.alloc _ _ _
      have HBE := hid (HBV1.out.trans (F.below HBV1.out.size (fun _ _ h => h)))
      have HDE0 := hid ((F.block D0 (Array.getElem?_eq_some_iff.1 HDV.out).1 (fun h => h)).trans HDV.out)
      have HDE1 := hid ((F.block D1 (Array.getElem?_eq_some_iff.1 HD1.out).1 (fun h => h)).trans HD1.out)
      have hD10 : D1 ≠ D0 := by have := (Array.getElem?_eq_some_iff.1 HDT.out).1; omega
      clear hW F c0 c1 q0 qf k0 m1 m2
      have up := hid (show ∀ W, Below wE.heap.size wE W → Below wC.heap.size wC W from fun W h => below_then HBE.out h)
      have HS := hid (show ∀ W, Below wE.heap.size wE W → W.cell? ⟨w1.heap.size, 0, none⟩ = some (.int .i64 0) ∧ W.cell? ⟨w1.heap.size, 1, none⟩ = some (.int .i64 0) ∧ W.cell? ⟨w1.heap.size, 2, none⟩ = some (.int .i64 0) ∧ W.cell? ⟨w1.heap.size, 3, none⟩ = some (.int .u64 (y : Nat)) from fun W hW =>
        (HRC.out.below (up.out W hW) HRC.out.lt).c.1)
      have HS2 := hid (show ∀ W u, Below wE.heap.size wE W → (W.setCell ⟨w.heap.size + 1 + 1, 0, none⟩ u).cell? ⟨w1.heap.size, 0, none⟩ = some (.int .i64 0) ∧ (W.setCell ⟨w.heap.size + 1 + 1, 0, none⟩ u).cell? ⟨w1.heap.size, 1, none⟩ = some (.int .i64 0) ∧ (W.setCell ⟨w.heap.size + 1 + 1, 0, none⟩ u).cell? ⟨w1.heap.size, 2, none⟩ = some (.int .i64 0) ∧ (W.setCell ⟨w.heap.size + 1 + 1, 0, none⟩ u).cell? ⟨w1.heap.size, 3, none⟩ = some (.int .u64 (y : Nat)) from fun W u hW =>
        ((HRC.out.below (up.out W hW) HRC.out.lt).fr (Fr.setCell (S := fun j => j = w.heap.size + 1 + 1) W ⟨w.heap.size + 1 + 1, 0, none⟩ u rfl) (by omega)).c.1)
      have HRes := hid (show ∀ W, Below wE.heap.size wE W → Blk W (w.heap.size + 1 + 1) 4 #[.bool false] from fun W hW => HEC.out.below (up.out W hW) HEC.out.lt)
      have KS := hid (fun W (h : Below wE.heap.size wE W) => state_any W g (Noi.step y) 0 0 0 (HNC.out.below (up.out W h) HNC.out.lt) (Noi.step_pos hy0 hyM.out))
      have KT := hid (fun W (h : Below wE.heap.size wE W) => (refStep_any W 0 0 0 y hyM.out).mono fun r w' h' => (⟨h'.1, below_then h h'.2⟩ : _ ∧ Below wE.heap.size wE w'))
      have KW := hid (fun W (h : Below wE.heap.size wE W) => (works18 W).mono fun r w' h' => (⟨h'.1, below_then h h'.2⟩ : _ ∧ Below wE.heap.size wE w'))
      have hfd : ∀ w, (Instr.field 28 (NV 0 0 0 (Noi.step y)) 1).run Try.prog w = .ok (.int .u64 (Noi.step y : Nat)) w := fun _ => by kernel_rfl
      generalize Noi.step y = z at *
      have B0 : Below wE.heap.size wE wE.drew := below_drewN wE 1
      go_region_held3 (fun W => W.cell? ⟨w1.heap.size, 0, none⟩ = some (.int .i64 0) ∧ W.cell? ⟨w1.heap.size, 1, none⟩ = some (.int .i64 0) ∧ W.cell? ⟨w1.heap.size, 2, none⟩ = some (.int .i64 0) ∧ W.cell? ⟨w1.heap.size, 3, none⟩ = some (.int .u64 (y : Nat))) (first | exact HS.out _ (by assumption) | exact HS2.out _ _ (by assumption))
        ((first
          | (go_at_call 18; (with_reducible refine (KS.out _ (by assumption)).mono ?_); rintro r wc ⟨rfl, rfl⟩)
          | (go_at_call 15; (with_reducible refine (KT.out _ (by assumption)).mono ?_); rintro r wd ⟨rfl, Bd⟩)
          | (go_at_call 11; (with_reducible refine (KW.out _ (by assumption)).mono ?_); rintro r we ⟨rfl, Be⟩; have cz : we.cell? ⟨w.heap.size + 1 + 1, 0, none⟩ = some (.bool false) := (HRes.out we Be).cell 0; have fz : we.frozen? ⟨w.heap.size + 1 + 1, 0, none⟩ = false := (HRes.out we Be).frozen 0)))
      all_goals
        have HRw := hid ((HRes.out we Be).set_ 0 (.bool true))
        have F : Fr (fun j => j = w.heap.size + 1 + 1) we (we.setCell ⟨w.heap.size + 1 + 1, 0, none⟩ (.bool true)) := Fr.setCell (S := fun j => j = w.heap.size + 1 + 1) we ⟨w.heap.size + 1 + 1, 0, none⟩ _ rfl
        have hd0 := (Be.block D0 (Array.getElem?_eq_some_iff.1 HDE0.out).1).trans HDE0.out
        have hd1 := (Be.block D1 (Array.getElem?_eq_some_iff.1 HDE1.out).1).trans HDE1.out
        have HD0' := hid ((F.block D0 (Array.getElem?_eq_some_iff.1 hd0).1 (by omega)).trans hd0)
        have HD1' := hid ((F.block D1 (Array.getElem?_eq_some_iff.1 hd1).1 (by omega)).trans hd1)
        have HBw := hid (HBC.out.trans (((up.out _ Be).mono HBC.out.size).trans (F.below (Nat.le_trans HBC.out.size (up.out _ Be).size) (fun j hj e => by omega))))
        clear hd0 hd1 F cz fz
        go_wp2
        generalize World.setCell _ _ _ = wF at *
        have F1 : Fr (fun j => j = D1) wF (wF.putObj D1 (.deferred none)) := Fr.putObj wF D1 _ rfl
        have F2 : Fr (fun j => j = D0) (wF.putObj D1 (.deferred none)) ((wF.putObj D1 (.deferred none)).putObj D0 (.deferred none)) := Fr.putObj _ D0 _ rfl
        have kE := ((HRw.out.fr F1 (by omega)).fr F2 (by omega)).cell 0
        simp only [List.setIfInBounds_toArray, List.set_cons_zero, List.getElem?_toArray, List.getElem?_cons_zero] at kE
        exact bodyPostM_ret2 HD1'.out HD0'.out (fun e => hD10 e.symm) rfl (v := .bool true) (by simp [results, Try.results4, go_sem, kE]) ⟨rfl, (HBw.out.trans (F1.below HBw.out.size (fun j hj e => by omega))).trans (F2.below (Nat.le_trans HBw.out.size F1.size) (fun j hj e => by omega))⟩
  case stop0 =>
    rintro D0 c' k V0 ⟨rfl, hKk, hT, hB, ⟨hkM, hkn⟩, hVs⟩ hD hDl
    have hmin := hid (show (if M < n then (M : Int) else (n : Int)) = ((k : Nat) : Int) by split <;> omega)
    have HKV0 := hid hKk
    have HTV0 := hid hT
    have HBV0 := hid hB
    have HD0 := hid hD
    have hsV0 := hVs
    have Hkn := hid (And.intro hkM hkn)
    clear hkM hkn
    clear hKk hT hB hD hVs
    obtain ⟨c0, c1, -⟩ := HK.out _ HBV0.out
    have q0 : V0.cell? ⟨wC.heap.size, 0, none⟩ = some (.int .i64 0) := HTV0.out.cell 0
    have qf : V0.frozen? ⟨wC.heap.size, 0, none⟩ = false := HTV0.out.frozen 0
    have k0 : V0.cell? ⟨w0.heap.size + 1, 0, none⟩ = some (.int .i64 k) := HKV0.out.cell 0
    have m1 := hcx.out
    have m2 := hmx.out
    have m3 := hmin.out
    gi_wp2
    go_wp2_with fail
    generalize hW : World.alloc _ _ = wT
    have HT1 := hid (show Blk wT V0.heap.size 3 #[.int .i64 1] by rw [← hW]; exact Blk.new V0 _ _)
    have F : Fr (fun _ => False) V0 wT := by rw [← hW]; exact Fr.alloc _ _ _
    have HB1 := hid (HBV0.out.trans (F.below HBV0.out.size (fun _ _ h => h)))
    have HDT := hid ((F.block D0 (Array.getElem?_eq_some_iff.1 HD0.out).1 (fun h => h)).trans HD0.out)
    have hD0l := (Array.getElem?_eq_some_iff.1 HD0.out).1
    clear hW F c0 c1 q0 qf k0 m1 m2 m3 HTV0 HKV0
    rw [rounds_succ]
    have q0 : wT.cell? ⟨V0.heap.size, 0, none⟩ = some (.int .i64 1) := HT1.out.cell 0
    obtain ⟨c0, c1, d0, d1, d2, d3⟩ := HK.out _ HB1.out
    go_wp2_with fail
    generalize hW : World.alloc _ _ = wR1
    have F : Fr (fun _ => False) wT wR1 := by rw [← hW]; exact (Fr.alloc _ _ _).trans (Fr.alloc _ _ _)
    have HX1 := hid (show RB wR1 wT.heap.size 0 0 0 y by rw [← hW]; exact Blk.fr (Blk.new wT _ _) (Fr.alloc (fun _ => False) _ _) (fun h => h))
    have HN1 := hid (show Blk wR1 (wT.heap.size + 1) 3 #[.int .i64 (0 : Nat)] by rw [← hW]; have := Blk.new (wT.alloc (.cells #[.int .i64 0, .int .i64 0, .int .i64 0, .int .u64 (y : Nat)] 28)) 3 #[.int .i64 (0 : Nat)]; rw [World.size_alloc] at this; exact this)
    have HTR1 := hid (HT1.out.fr F (fun h => h))
    have HDR1 := hid ((F.block D0 (Array.getElem?_eq_some_iff.1 HDT.out).1 (fun h => h)).trans HDT.out)
    have HBR1 := hid (HB1.out.trans (F.below HB1.out.size (fun _ _ h => h)))
    have hsR1 : wT.heap.size + 1 < wR1.heap.size := HN1.out.lt
    have htb1 : V0.heap.size < wT.heap.size := HT1.out.lt
    clear hW F q0 c0 c1 d0 d1 d2 d3
    refine (wpIn_wide (n := 1)).1 ?_
    refine wpIn_range (gf := 38) (lb := #[.pointer (some ⟨wA.heap.size + 1, 0, none⟩), .pointer (some ⟨wA.heap.size, 0, none⟩)]) rfl (enters_of Try.func38 (by kernel_rfl) rfl) HIT.out HBR1.out (fun _ => rfl)
      (fun k V => RB V wT.heap.size 0 0 0 (Noi.stN y k) ∧ Blk V (wT.heap.size + 1) 3 #[.int .i64 (k : Nat)] ∧ Blk V V0.heap.size 3 #[.int .i64 1] ∧ Below wC.heap.size wC V ∧ V.heap[D0]? = some (.deferred (some [])) ∧ wR1.heap.size ≤ V.heap.size)
      (fun k c V => False)
      (fun k A V h hf => ⟨h.1.fr hf (by omega), h.2.1.fr hf (by omega), h.2.2.1.fr hf (by omega), h.2.2.2.1.trans (hf.below h.2.2.2.1.size (fun j hj h' => by omega)), (hf.block D0 (Array.getElem?_eq_some_iff.1 h.2.2.2.2.1).1 (by omega)).trans h.2.2.2.2.1, Nat.le_trans h.2.2.2.2.2 hf.size⟩)
      (fun k c A V h hf => h)
      ⟨HX1.out, HN1.out, HTR1.out, HBR1.out, HDR1.out, Nat.le_refl _⟩ (fun h => by cases h) ?a11y ?assign1y ?body1y ?done1y (fun _ _ _ _ h => h.elim)
    case assign1y =>
      intro l k V K hK
      gi_wp2
      exact hK
    case body1y =>
      rintro l k V hk ⟨hX, hKk, hT, hB, hcond, hVs2⟩ hVs
      have hlt := hk n rfl
      have hst := Noi.stN_lt hyM.out k
      have hge := hcn.out k hlt
      have HX2 := hid (show Noi.stN y (k + 1) = Noi.step (Noi.stN y k) from rfl)
      obtain ⟨c0, c1, -⟩ := HK.out _ hB
      obtain ⟨⟨d0, d1, d2, d3⟩, -⟩ := hX.c
      have q0 : V.cell? ⟨V0.heap.size, 0, none⟩ = some (.int .i64 1) := hT.cell 0
      rw [HX2.out]
      generalize Noi.stN y k = st at *
      have HSp := hid (fun w => refStep_any w 0 0 0 st hst)
      have HX := hid hX
      have HKk := hid hKk
      have HT := hid hT
      have HB := hid hB
      have Hc := hid hcond
      have HVs := hid hVs2
      have Hlt := hid hlt
      have hk5 : k ≤ 500 := by omega
      clear hX hKk hT hB hcond hk hst HIT hVs2 hlt
      gi_wp2
      refine ⟨trivial, rfl, CallsIn.inRound _ (callsIn_wide.2 ((HSp.out _).mono ?_))⟩
      rintro r V1 ⟨rfl, B1⟩
      have HX1 := hid (HX.out.below B1 HX.out.lt)
      have HK1 := hid (HKk.out.below B1 HKk.out.lt)
      have HT1 := hid (HT.out.below B1 HT.out.lt)
      have HB1 := hid (below_then HB.out B1)
      have hs1 : V.heap.size ≤ V1.heap.size := B1.size
      have hVV := HVs.out
      have hKT := hid (show KeepT (fun b => (b = wA.heap.size ∨ b = wA.heap.size + 1) ∨ (wR1.heap.size ≤ b ∧ b < wR1.heap.size + 2 + 1)) V V1 from ⟨hs1, fun j hj _ => B1.block j hj⟩)
      clear c0 c1 d0 d1 d2 d3 q0
      obtain ⟨c0, c1, -⟩ := HK.out _ HB1.out
      obtain ⟨⟨d0, d1, d2, d3⟩, fz⟩ := HX1.out.c
      have f0 := fz 0
      have f1 := fz 1
      have f2 := fz 2
      have f3 := fz 3
      have k0 : V1.cell? ⟨wT.heap.size + 1, 0, none⟩ = some (.int .i64 k) := HK1.out.cell 0
      have kf : V1.frozen? ⟨wT.heap.size + 1, 0, none⟩ = false := HK1.out.frozen 0
      have q0 : V1.cell? ⟨V0.heap.size, 0, none⟩ = some (.int .i64 1) := HT1.out.cell 0
      have HDB := hid ((B1.block D0 (Array.getElem?_eq_some_iff.1 Hc.out).1).trans Hc.out)
      clear fz B1
      have n1 : ¬ wT.heap.size = wT.heap.size + 1 := by omega
      have n2 : ¬ wT.heap.size + 1 = wT.heap.size := by omega
      have n3 : ¬ V0.heap.size = wT.heap.size := by omega
      have n4 : ¬ V0.heap.size = wT.heap.size + 1 := by omega
      have n5 : ¬ w.heap.size = wT.heap.size := by omega
      have n6 : ¬ w.heap.size = wT.heap.size + 1 := by omega
      have n7 : ¬ w.heap.size + 1 = wT.heap.size := by omega
      have n8 : ¬ w.heap.size + 1 = wT.heap.size + 1 := by omega
      gi_wp2
      generalize hW : World.setCell _ _ _ = W5
      obtain ⟨hX5, hK5, hF5⟩ := out_post HX1.out HK1.out (by omega) hW
      exact ⟨hKT.out.trans (KeepT.of_fr hF5 (fun j hj h => by omega)), by rw [HX2.out]; exact hX5, hK5, HT1.out.fr hF5 (by omega), HB1.out.trans (hF5.below HB1.out.size (fun j hj h => by omega)), (hF5.block D0 (Array.getElem?_eq_some_iff.1 HDB.out).1 (by omega)).trans HDB.out, Nat.le_trans (Nat.le_trans hVV hs1) hF5.size⟩
    case done1y =>
      rintro D1 n' V1 hn' ⟨hX, hKk, hT, hB, hcond, hVs⟩ hD hDl
      obtain rfl : n = n' := by cases hn'; rfl
      have HKV1 := hid hKk
      have HTV1 := hid hT
      have HBV1 := hid hB
      have HD1 := hid hD
      have hsV1 := hVs
      have HDV := hid hcond
      clear hX hcond
      clear hKk hT hB hD hVs
      obtain ⟨c0, c1, -⟩ := HK.out _ HBV1.out
      have q0 : V1.cell? ⟨V0.heap.size, 0, none⟩ = some (.int .i64 1) := HTV1.out.cell 0
      have qf : V1.frozen? ⟨V0.heap.size, 0, none⟩ = false := HTV1.out.frozen 0
      have k0 : V1.cell? ⟨wT.heap.size + 1, 0, none⟩ = some (.int .i64 n) := HKV1.out.cell 0
      have m1 := hcx.out
      have m2 := hmx.out
      go_wp2_with fail
      rw [rounds_succ]
      go_wp2_with fail
      generalize hW : World.alloc _ _ = wE
      have F : Fr (fun _ => False) V1 wE := by rw [← hW]; exact Fr.alloc _ _ _
      have HBE := hid (HBV1.out.trans (F.below HBV1.out.size (fun _ _ h => h)))
      have HDE0 := hid ((F.block D0 (Array.getElem?_eq_some_iff.1 HDV.out).1 (fun h => h)).trans HDV.out)
      have HDE1 := hid ((F.block D1 (Array.getElem?_eq_some_iff.1 HD1.out).1 (fun h => h)).trans HD1.out)
      have hD10 : D1 ≠ D0 := by have := (Array.getElem?_eq_some_iff.1 HDT.out).1; omega
      clear hW F c0 c1 q0 qf k0 m1 m2
      have up := hid (show ∀ W, Below wE.heap.size wE W → Below wC.heap.size wC W from fun W h => below_then HBE.out h)
      have HS := hid (show ∀ W, Below wE.heap.size wE W → W.cell? ⟨w1.heap.size, 0, none⟩ = some (.int .i64 0) ∧ W.cell? ⟨w1.heap.size, 1, none⟩ = some (.int .i64 0) ∧ W.cell? ⟨w1.heap.size, 2, none⟩ = some (.int .i64 0) ∧ W.cell? ⟨w1.heap.size, 3, none⟩ = some (.int .u64 (y : Nat)) from fun W hW =>
        (HRC.out.below (up.out W hW) HRC.out.lt).c.1)
      have HS2 := hid (show ∀ W u, Below wE.heap.size wE W → (W.setCell ⟨w.heap.size + 1 + 1, 0, none⟩ u).cell? ⟨w1.heap.size, 0, none⟩ = some (.int .i64 0) ∧ (W.setCell ⟨w.heap.size + 1 + 1, 0, none⟩ u).cell? ⟨w1.heap.size, 1, none⟩ = some (.int .i64 0) ∧ (W.setCell ⟨w.heap.size + 1 + 1, 0, none⟩ u).cell? ⟨w1.heap.size, 2, none⟩ = some (.int .i64 0) ∧ (W.setCell ⟨w.heap.size + 1 + 1, 0, none⟩ u).cell? ⟨w1.heap.size, 3, none⟩ = some (.int .u64 (y : Nat)) from fun W u hW =>
        ((HRC.out.below (up.out W hW) HRC.out.lt).fr (Fr.setCell (S := fun j => j = w.heap.size + 1 + 1) W ⟨w.heap.size + 1 + 1, 0, none⟩ u rfl) (by omega)).c.1)
      have HRes := hid (show ∀ W, Below wE.heap.size wE W → Blk W (w.heap.size + 1 + 1) 4 #[.bool false] from fun W hW => HEC.out.below (up.out W hW) HEC.out.lt)
      have KS := hid (fun W (h : Below wE.heap.size wE W) => state_any W g (Noi.step y) 0 0 0 (HNC.out.below (up.out W h) HNC.out.lt) (Noi.step_pos hy0 hyM.out))
      have KT := hid (fun W (h : Below wE.heap.size wE W) => (refStep_any W 0 0 0 y hyM.out).mono fun r w' h' => (⟨h'.1, below_then h h'.2⟩ : _ ∧ Below wE.heap.size wE w'))
      have KW := hid (fun W (h : Below wE.heap.size wE W) => (works18 W).mono fun r w' h' => (⟨h'.1, below_then h h'.2⟩ : _ ∧ Below wE.heap.size wE w'))
      have hfd : ∀ w, (Instr.field 28 (NV 0 0 0 (Noi.step y)) 1).run Try.prog w = .ok (.int .u64 (Noi.step y : Nat)) w := fun _ => by kernel_rfl
      generalize Noi.step y = z at *
      have B0 : Below wE.heap.size wE wE.drew := below_drewN wE 1
      go_region_held3 (fun W => W.cell? ⟨w1.heap.size, 0, none⟩ = some (.int .i64 0) ∧ W.cell? ⟨w1.heap.size, 1, none⟩ = some (.int .i64 0) ∧ W.cell? ⟨w1.heap.size, 2, none⟩ = some (.int .i64 0) ∧ W.cell? ⟨w1.heap.size, 3, none⟩ = some (.int .u64 (y : Nat))) (first | exact HS.out _ (by assumption) | exact HS2.out _ _ (by assumption))
        ((first
          | (go_at_call 18; (with_reducible refine (KS.out _ (by assumption)).mono ?_); rintro r wc ⟨rfl, rfl⟩)
          | (go_at_call 15; (with_reducible refine (KT.out _ (by assumption)).mono ?_); rintro r wd ⟨rfl, Bd⟩)
          | (go_at_call 11; (with_reducible refine (KW.out _ (by assumption)).mono ?_); rintro r we ⟨rfl, Be⟩; have cz : we.cell? ⟨w.heap.size + 1 + 1, 0, none⟩ = some (.bool false) := (HRes.out we Be).cell 0; have fz : we.frozen? ⟨w.heap.size + 1 + 1, 0, none⟩ = false := (HRes.out we Be).frozen 0)))
      all_goals
        have HRw := hid ((HRes.out we Be).set_ 0 (.bool true))
        have F : Fr (fun j => j = w.heap.size + 1 + 1) we (we.setCell ⟨w.heap.size + 1 + 1, 0, none⟩ (.bool true)) := Fr.setCell (S := fun j => j = w.heap.size + 1 + 1) we ⟨w.heap.size + 1 + 1, 0, none⟩ _ rfl
        have hd0 := (Be.block D0 (Array.getElem?_eq_some_iff.1 HDE0.out).1).trans HDE0.out
        have hd1 := (Be.block D1 (Array.getElem?_eq_some_iff.1 HDE1.out).1).trans HDE1.out
        have HD0' := hid ((F.block D0 (Array.getElem?_eq_some_iff.1 hd0).1 (by omega)).trans hd0)
        have HD1' := hid ((F.block D1 (Array.getElem?_eq_some_iff.1 hd1).1 (by omega)).trans hd1)
        have HBw := hid (HBC.out.trans (((up.out _ Be).mono HBC.out.size).trans (F.below (Nat.le_trans HBC.out.size (up.out _ Be).size) (fun j hj e => by omega))))
        clear hd0 hd1 F cz fz
        go_wp2
        generalize World.setCell _ _ _ = wF at *
        have F1 : Fr (fun j => j = D1) wF (wF.putObj D1 (.deferred none)) := Fr.putObj wF D1 _ rfl
        have F2 : Fr (fun j => j = D0) (wF.putObj D1 (.deferred none)) ((wF.putObj D1 (.deferred none)).putObj D0 (.deferred none)) := Fr.putObj _ D0 _ rfl
        have kE := ((HRw.out.fr F1 (by omega)).fr F2 (by omega)).cell 0
        simp only [List.setIfInBounds_toArray, List.set_cons_zero, List.getElem?_toArray, List.getElem?_cons_zero] at kE
        exact bodyPostM_ret2 HD1'.out HD0'.out (fun e => hD10 e.symm) rfl (v := .bool true) (by simp [results, Try.results4, go_sem, kE]) ⟨rfl, (HBw.out.trans (F1.below HBw.out.size (fun j hj e => by omega))).trans (F2.below (Nat.le_trans HBw.out.size F1.size) (fun j hj e => by omega))⟩
end Go.Proofs.Ytngggknejkcepaa

/- userplanelaw17.GridReferences. -/
import Derived.Test.YtighnjbcnfnpmaaGriJ
namespace Go.Proofs.Ytighnjbcnfnpmaa
open Go.RowKit Go.Shelf
set_option linter.unusedVariables false
attribute [local go_sem] Oper.semAt_some
attribute [local go_sem ↓] Go.wp_at_zero Go.wp_at_succ
/-- A function with two ranges over functions returns. -/
theorem bodyPostM_ret2 {F : Fence} {n : Nat} {P : Program} {fn : Func} {R : Ending → World → Prop} {a : Act} {w : World} {D1 D2 : Nat} {v : Value} (hK1 : w.heap[D1]? = some (.deferred (some []))) (hK2 : w.heap[D2]? = some (.deferred (some []))) (hne : D2 ≠ D1)
    (hd : a.defers = [{ target := .collected D1, args := #[] }, { target := .collected D2, args := #[] }])
    (hr : (results fn a.tmps).run P ((w.putObj D1 (.deferred none)).putObj D2 (.deferred none)) = .ok v ((w.putObj D1 (.deferred none)).putObj D2 (.deferred none))) (hR : R (.returned v) ((w.putObj D1 (.deferred none)).putObj D2 (.deferred none))) : bodyPostM F n P fn R .ret a w := by
  show LeavesInM F n P fn a.tmps R a.defers .returning w
  rw [hd]
  exact ⟨by simp, .inl ⟨D1, _, rfl, run_takeDeferred hK1, ⟨by simp, .inl ⟨D2, _, rfl, run_takeDeferred ((World.putObj_heap_other hne).trans hK2), ⟨v, hr, hR⟩⟩⟩⟩⟩
theorem n_post {V1 W : World} {kb : Nat} {u u' : Value} (hK : Blk V1 kb 3 #[u]) (hW : V1.setCell ⟨kb, 0, none⟩ u' = W) : Blk W kb 3 #[u'] ∧ Fr (fun j => j = kb) V1 W := by
  subst hW
  exact ⟨hK.set_ 0 u', Fr.setCell (S := fun j => j = kb) V1 ⟨kb, 0, none⟩ u' rfl⟩
set_option maxRecDepth 100000 in
set_option maxHeartbeats 8000000 in
theorem law_GridReferences (b t l m : Int) (wb : (Lit.int .i64 b).wf = true) (wt : (Lit.int .i64 t).wf = true) (wl : (Lit.int .i64 l).wf = true) (wm : (Lit.int .i64 m).wf = true) (w : World) :
    Calls Try.prog 5 #[CV b t l, .int .i64 m] w fun e w' => e = .returned (.bool true) ∧ Below w.heap.size w w' := by
  have hnil : ∀ w (p : Value), (binOp .eql 43 (.func (.func 42) #[] #[p]) .nilFunc).run Try.prog w = .ok (.bool false) w := fun _ _ => by kernel_rfl
  obtain ⟨M, hM⟩ : ∃ M : Nat, (M : Int) = if 1 < m then m else 1 := ⟨(if 1 < m then m else 1).toNat, by split <;> omega⟩
  have hmx := hid (show (if 1 < m then m else 1) = (M : Int) by split <;> omega)
  have hM1 : 1 ≤ M := by split at hM <;> omega
  have hMm := hid (show ∀ k : Nat, (decide (m ≤ ((k : Int) + 1)) = true ↔ M ≤ k + 1) from fun k => by rw [decide_eq_true_iff]; split at hM <;> omega)
  have K1 := hid (refReferences17 b t l)
  have K2 := hid (greferences_any b t l)
  have Hlen := hid (Gr.rfs_len b t l)
  rw [show (if Gr.vld b t l = true then Gr.refL b t l else []) = Gr.rfs b t l from rfl] at K1
  generalize Gr.rfs b t l = P at *
  obtain ⟨n, hn⟩ : ∃ n, P.length = n := ⟨_, rfl⟩
  have Hn := hid hn
  have hn5 : n ≤ 16800 := by rw [← hn]; exact Hlen.out
  clear wb wt wl wm hM hn Hlen
  refine calls_of_wp_marks Try.func5 rfl ?_
  simp only [Try.ntmps5, List.size_toArray, List.length_cons, List.length_nil, Nat.reduceAdd, Nat.reduceSub, Array.replicate_succ, Array.replicate_zero, List.push_toArray, List.append_toArray, List.nil_append, List.cons_append]
  go_wp2_with fail
  refine (K1.out _).mono ?_
  rintro r w1 ⟨⟨v1, rfl, hO⟩, B⟩
  have HA1 := hid (show Blk w1 w.heap.size 23 #[.int .i64 b, .int .i64 t, .int .i64 l] from Blk.below ((Blk.new w _ _).fr (((Fr.alloc (fun _ => False) _ _)).trans (Fr.alloc (fun _ => False) _ _)) (fun h => h)) B (by simp; omega))
  have HC1 := hid (show Blk w1 (w.heap.size + 1) 3 #[.int .i64 m] from Blk.below (Blk.fr (by have := Blk.new (w.alloc (.cells #[.int .i64 b, .int .i64 t, .int .i64 l] 23)) 3 #[.int .i64 m]; rw [World.size_alloc] at this; exact this) (Fr.alloc (fun _ => False) _ _) (fun h => h)) B (by simp))
  have HE1 := hid (show Blk w1 (w.heap.size + 1 + 1) 4 #[.bool false] from Blk.below (by have := Blk.new ((w.alloc (.cells #[.int .i64 b, .int .i64 t, .int .i64 l] 23)).alloc (.cells #[.int .i64 m] 3)) 4 #[.bool false]; rw [World.size_alloc, World.size_alloc] at this; exact this) B (by simp))
  have HB1 := hid (up_alloc (up_alloc (up_alloc B)))
  obtain ⟨aa, ca, rfl, _⟩ := hO.vw
  have HV1 := hid hO.vw
  rw [List.length_map, Hn.out] at HV1 ⊢
  have c0 : w1.cell? ⟨w.heap.size, 0, none⟩ = some (.int .i64 b) := HA1.out.cell 0
  have c1 : w1.cell? ⟨w.heap.size, 1, none⟩ = some (.int .i64 t) := HA1.out.cell 1
  have c2 : w1.cell? ⟨w.heap.size, 2, none⟩ = some (.int .i64 l) := HA1.out.cell 2
  have hl1 : w.heap.size < w1.heap.size := HA1.out.lt
  clear B hO
  go_wp2_with fail
  refine (K2.out _).mono ?_
  rintro r wC ⟨⟨u, rfl, hU, hVU⟩, B⟩
  have HU := hid (show Blk wC (w1.heap.size + 1 + 1) 34 #[u] by simpa using hU)
  have HVU := hid hVU
  have HAt := hid (show Blk wC w1.heap.size 34 #[.slice aa n ca] from Blk.below (Blk.new w1 _ _) B (by simp))
  have hsA : w1.heap.size < wC.heap.size := HAt.out.lt
  have HBC := hid (HB1.out.trans ((below_alloc w1 _).trans (B.mono (by simp)) |>.mono HB1.out.size))
  have BB : Below w1.heap.size w1 wC := (below_alloc w1 _).trans (B.mono (by simp))
  have HCC := hid (HC1.out.below BB HC1.out.lt)
  have HRes := hid (HE1.out.below BB HE1.out.lt)
  have HKM := hid HCC.out.lt
  have HKR := hid (show w.heap.size ≤ w.heap.size + 1 + 1 by omega)
  have HVC := hid (HV1.out.below BB (Nat.le_refl _))
  clear B BB hU hVU c0 c1 c2
  have HK := hid (show ∀ W, Below wC.heap.size wC W → W.cell? ⟨w.heap.size + 1, 0, none⟩ = some (.int .i64 m) ∧ W.cell? ⟨w1.heap.size, 0, none⟩ = some (.slice aa n ca) ∧ Vw W (.slice aa n ca) (P.map (Value.int .i64)) from fun W hW =>
    ⟨(HCC.out.below hW HCC.out.lt).cell 0, (HAt.out.below hW HAt.out.lt).cell 0, HVC.out.below hW (Nat.le_refl _)⟩)
  obtain ⟨f, hf⟩ : ∃ f : Nat → Int, ∀ k, f k = P.getD k 0 := ⟨fun k => P.getD k 0, fun _ => rfl⟩
  have Hf := hid hf
  have hit := refs1_iter P (by rw [Hn.out]; omega) (w1.heap.size + 1 + 1) u (fun j => j < wC.heap.size) HU.out.lt HVU.out.vw.lt wC (HU.out.cell 0) HVU.out.vw (fun j hj => hj)
  rw [show (fun k : Nat => (#[.int .i64 k, .int .i64 (P.getD k 0)] : Array Value)) = (fun k => #[.int .i64 k, .int .i64 (f k)]) from funext fun k => by rw [hf]] at hit
  have HIT := hid hit
  clear hf hit
  rw [Hn.out] at HIT
  go_wp2_with fail
  generalize hW : World.alloc _ _ = w0
  have HT0 := hid (show Blk w0 wC.heap.size 3 #[.int .i64 0] by rw [← hW]; exact Blk.new wC _ _)
  have HB0 := hid (show Below wC.heap.size wC w0 by rw [← hW]; exact below_alloc _ _)
  clear hW
  refine wp_loop_rounds 3 ?_
  rw [rounds_succ]
  have q0 : w0.cell? ⟨wC.heap.size, 0, none⟩ = some (.int .i64 0) := HT0.out.cell 0
  go_wp2_with fail
  generalize hW : World.alloc _ _ = wR0
  have F : Fr (fun _ => False) w0 wR0 := by rw [← hW]; exact Fr.alloc _ _ _
  have HN0 := hid (show Blk wR0 w0.heap.size 3 #[.int .i64 (0 : Nat)] by rw [← hW]; exact Blk.new w0 _ _)
  have HTR0 := hid (HT0.out.fr F (fun h => h))
  skip
  have HBR0 := hid (HB0.out.trans (F.below HB0.out.size (fun _ _ h => h)))
  have hsR0 : w0.heap.size < wR0.heap.size := HN0.out.lt
  have hsC0 : wC.heap.size ≤ w0.heap.size := HB0.out.size
  have htb0 : wC.heap.size < w0.heap.size := HT0.out.lt
  clear hW F q0
  refine (wpIn_wide (n := 1)).1 ?_
  refine wpIn_range (gf := 42) (lb := #[.pointer (some ⟨w1.heap.size + 1 + 1, 0, none⟩)]) rfl (enters_of Try.func42 (by kernel_rfl) rfl) HIT.out HBR0.out (fun _ => rfl)
    (fun k V => Blk V w0.heap.size 3 #[.int .i64 (k : Nat)] ∧ Blk V wC.heap.size 3 #[.int .i64 0] ∧ Below wC.heap.size wC V ∧ (k = 0 ∨ k < M) ∧ wR0.heap.size ≤ V.heap.size)
    (fun k c V => c = .exit 2 ∧ Blk V w0.heap.size 3 #[.int .i64 (k : Nat)] ∧ Blk V wC.heap.size 3 #[.int .i64 0] ∧ Below wC.heap.size wC V ∧ (k = M ∧ k ≤ n) ∧ wR0.heap.size ≤ V.heap.size)
    (fun k A V h hf => ⟨h.1.fr hf (by omega), h.2.1.fr hf (by omega), h.2.2.1.trans (hf.below h.2.2.1.size (fun j hj h' => by omega)), h.2.2.2.1, Nat.le_trans h.2.2.2.2 hf.size⟩)
    (fun k c A V h hf => ⟨h.1, h.2.1.fr hf (by omega), h.2.2.1.fr hf (by omega), h.2.2.2.1.trans (hf.below h.2.2.2.1.size (fun j hj h2 => by omega)), h.2.2.2.2.1, Nat.le_trans h.2.2.2.2.2 hf.size⟩)
    ⟨HN0.out, HTR0.out, HBR0.out, .inl rfl, Nat.le_refl _⟩ (fun h => by cases h) ?a10 ?assign0 ?body0 ?done0 ?stop0
  case assign0 =>
    intro l k V K hK
    gi_wp2
    exact hK
  case body0 =>
    rintro l k V hk ⟨hKk, hT, hB, hcond, hVs2⟩ hVs
    have hlt := hk n rfl
    obtain ⟨c1, c2, hV⟩ := HK.out _ hB
    obtain ⟨b1, o1, cc, e1, hx⟩ := vw_at17 hV (show k < P.length by rw [Hn.out]; exact hlt)
    rw [Hn.out] at e1
    cases e1
    rw [← Hf.out k] at hx
    generalize f k = x at *
    clear hV
    have k0 : V.cell? ⟨w0.heap.size, 0, none⟩ = some (.int .i64 k) := hKk.cell 0
    have kf : V.frozen? ⟨w0.heap.size, 0, none⟩ = false := hKk.frozen 0
    have q0 : V.cell? ⟨wC.heap.size, 0, none⟩ = some (.int .i64 0) := hT.cell 0
    have HKk := hid hKk
    have HT := hid hT
    have HB := hid hB
    have Hc := hid hcond
    have HVs := hid hVs2
    have hd0 : decide ((n : Int) ≤ (k : Int)) = false := decide_eq_false (by omega)
    have hd00 : decide (n ≤ k) = false := decide_eq_false (by omega)
    have hk5 : k ≤ 100000 := by omega
    have n3 : ¬ wC.heap.size = w0.heap.size := by omega
    have n5 : ¬ w.heap.size + 1 = w0.heap.size := by have := HKM.out; omega
    clear hKk hT hB hcond hk HIT hVs2
    by_cases hbr : M ≤ k + 1
    · have hd : decide (m ≤ (k : Int) + 1) = true := (hMm.out k).2 hbr
      have Hbr := hid hbr
      have Hlt := hid hlt
      clear hbr
      gi_wp2
      generalize hW : World.setCell _ _ _ = W5
      obtain ⟨hK5, hF5⟩ := n_post HKk.out hW
      have hlt := Hlt.out
      have hbr := Hbr.out
      have hcd := Hc.out
      exact ⟨KeepT.of_fr hF5 (fun j hj h => by omega), rfl, hK5, HT.out.fr hF5 (by omega), HB.out.trans (hF5.below HB.out.size (fun j hj h => by omega)), ⟨by omega, by omega⟩, Nat.le_trans HVs.out hF5.size⟩
    · have hd : decide (m ≤ (k : Int) + 1) = false := by cases h : decide (m ≤ (k : Int) + 1); rfl; exact absurd ((hMm.out k).1 h) hbr
      have Hbr := hid hbr
      clear hbr
      gi_wp2
      generalize hW : World.setCell _ _ _ = W5
      obtain ⟨hK5, hF5⟩ := n_post HKk.out hW
      have hbr := Hbr.out
      exact ⟨KeepT.of_fr hF5 (fun j hj h => by omega), hK5, HT.out.fr hF5 (by omega), HB.out.trans (hF5.below HB.out.size (fun j hj h => by omega)), .inr (by omega), Nat.le_trans HVs.out hF5.size⟩
  case done0 =>
    rintro D0 n' V0 hn' ⟨hKk, hT, hB, hcond, hVs⟩ hD hDl
    obtain rfl : n = n' := by cases hn'; rfl
    have hmin := hid (show (if M < n then (M : Int) else (n : Int)) = ((n : Nat) : Int) by split <;> omega)
    have HKV0 := hid hKk
    have HTV0 := hid hT
    have HBV0 := hid hB
    have HD0 := hid hD
    have hsV0 := hVs
    clear hcond
    clear hKk hT hB hD hVs
    obtain ⟨c1, c2, -⟩ := HK.out _ HBV0.out
    have q0 : V0.cell? ⟨wC.heap.size, 0, none⟩ = some (.int .i64 0) := HTV0.out.cell 0
    have qf : V0.frozen? ⟨wC.heap.size, 0, none⟩ = false := HTV0.out.frozen 0
    have k0 : V0.cell? ⟨w0.heap.size, 0, none⟩ = some (.int .i64 n) := HKV0.out.cell 0
    have m2 := hmx.out
    have m3 := hmin.out
    go_wp2_with fail
    generalize hW : World.alloc _ _ = wT
    have HT1 := hid (show Blk wT V0.heap.size 3 #[.int .i64 1] by rw [← hW]; exact Blk.new V0 _ _)
    have F : Fr (fun _ => False) V0 wT := by rw [← hW]; exact Fr.alloc _ _ _
    have HB1 := hid (HBV0.out.trans (F.below HBV0.out.size (fun _ _ h => h)))
    have HDT := hid ((F.block D0 (Array.getElem?_eq_some_iff.1 HD0.out).1 (fun h => h)).trans HD0.out)
    have hD0l := (Array.getElem?_eq_some_iff.1 HD0.out).1
    clear hW F c1 c2 q0 qf k0 m2 m3 HTV0 HKV0
    rw [rounds_succ]
    have q0 : wT.cell? ⟨V0.heap.size, 0, none⟩ = some (.int .i64 1) := HT1.out.cell 0
    go_wp2_with fail
    generalize hW : World.alloc _ _ = wR1
    have F : Fr (fun _ => False) wT wR1 := by rw [← hW]; exact Fr.alloc _ _ _
    have HN1 := hid (show Blk wR1 wT.heap.size 3 #[.int .i64 (0 : Nat)] by rw [← hW]; exact Blk.new wT _ _)
    have HTR1 := hid (HT1.out.fr F (fun h => h))
    have HDR1 := hid ((F.block D0 (Array.getElem?_eq_some_iff.1 HDT.out).1 (fun h => h)).trans HDT.out)
    have HBR1 := hid (HB1.out.trans (F.below HB1.out.size (fun _ _ h => h)))
    have hsR1 : wT.heap.size < wR1.heap.size := HN1.out.lt
    have hsC1 : wC.heap.size ≤ wT.heap.size := HB1.out.size
    have htb1 : V0.heap.size < wT.heap.size := HT1.out.lt
    clear hW F q0
    refine (wpIn_wide (n := 1)).1 ?_
    refine wpIn_range (gf := 42) (lb := #[.pointer (some ⟨w1.heap.size + 1 + 1, 0, none⟩)]) rfl (enters_of Try.func42 (by kernel_rfl) rfl) HIT.out HBR1.out (fun _ => rfl)
      (fun k V => Blk V wT.heap.size 3 #[.int .i64 (k : Nat)] ∧ Blk V V0.heap.size 3 #[.int .i64 1] ∧ Below wC.heap.size wC V ∧ V.heap[D0]? = some (.deferred (some [])) ∧ wR1.heap.size ≤ V.heap.size)
      (fun k c V => False)
      (fun k A V h hf => ⟨h.1.fr hf (by omega), h.2.1.fr hf (by omega), h.2.2.1.trans (hf.below h.2.2.1.size (fun j hj h' => by omega)), (hf.block D0 (Array.getElem?_eq_some_iff.1 h.2.2.2.1).1 (by omega)).trans h.2.2.2.1, Nat.le_trans h.2.2.2.2 hf.size⟩)
      (fun k c A V h hf => h)
      ⟨HN1.out, HTR1.out, HBR1.out, HDR1.out, Nat.le_refl _⟩ (fun h => by cases h) ?a11x ?assign1x ?body1x ?done1x (fun _ _ _ _ h => h.elim)
    case assign1x =>
      intro l k V K hK
      gi_wp2
      exact hK
    case body1x =>
      rintro l k V hk ⟨hKk, hT, hB, hcond, hVs2⟩ hVs
      have hlt := hk n rfl
      obtain ⟨c1, c2, hV⟩ := HK.out _ hB
      obtain ⟨b1, o1, cc, e1, hx⟩ := vw_at17 hV (show k < P.length by rw [Hn.out]; exact hlt)
      rw [Hn.out] at e1
      cases e1
      rw [← Hf.out k] at hx
      generalize f k = x at *
      clear hV
      have k0 : V.cell? ⟨wT.heap.size, 0, none⟩ = some (.int .i64 k) := hKk.cell 0
      have kf : V.frozen? ⟨wT.heap.size, 0, none⟩ = false := hKk.frozen 0
      have q0 : V.cell? ⟨V0.heap.size, 0, none⟩ = some (.int .i64 1) := hT.cell 0
      have HKk := hid hKk
      have HT := hid hT
      have HB := hid hB
      have Hc := hid hcond
      have HVs := hid hVs2
      have hd0 : decide ((n : Int) ≤ (k : Int)) = false := decide_eq_false (by omega)
      have hd00 : decide (n ≤ k) = false := decide_eq_false (by omega)
      have hk5 : k ≤ 100000 := by omega
      have n3 : ¬ V0.heap.size = wT.heap.size := by omega
      have n5 : ¬ w.heap.size + 1 = wT.heap.size := by have := HKM.out; omega
      clear hKk hT hB hcond hk HIT hVs2
      gi_wp2
      generalize hW : World.setCell _ _ _ = W5
      obtain ⟨hK5, hF5⟩ := n_post HKk.out hW
      exact ⟨KeepT.of_fr hF5 (fun j hj h => by omega), hK5, HT.out.fr hF5 (by omega), HB.out.trans (hF5.below HB.out.size (fun j hj h => by omega)), (hF5.block D0 (Array.getElem?_eq_some_iff.1 Hc.out).1 (by omega)).trans Hc.out, Nat.le_trans HVs.out hF5.size⟩
    case done1x =>
      rintro D1 n' V1 hn' ⟨hKk, hT, hB, hcond, hVs⟩ hD hDl
      obtain rfl : n = n' := by cases hn'; rfl
      have HKV1 := hid hKk
      have HTV1 := hid hT
      have HBV1 := hid hB
      have HD1 := hid hD
      have hsV1 := hVs
      have HDV := hid hcond
      clear hcond
      clear hKk hT hB hD hVs
      obtain ⟨c1, c2, -⟩ := HK.out _ HBV1.out
      have q0 : V1.cell? ⟨V0.heap.size, 0, none⟩ = some (.int .i64 1) := HTV1.out.cell 0
      have qf : V1.frozen? ⟨V0.heap.size, 0, none⟩ = false := HTV1.out.frozen 0
      have k0 : V1.cell? ⟨wT.heap.size, 0, none⟩ = some (.int .i64 n) := HKV1.out.cell 0
      have m2 := hmx.out
      go_wp2_with fail
      rw [rounds_succ]
      go_wp2_with fail
      generalize hW : World.alloc _ _ = wE
      have F : Fr (fun _ => False) V1 wE := by rw [← hW]; exact Fr.alloc _ _ _
      have HBE := hid (HBV1.out.trans (F.below HBV1.out.size (fun _ _ h => h)))
      have HDE0 := hid ((F.block D0 (Array.getElem?_eq_some_iff.1 HDV.out).1 (fun h => h)).trans HDV.out)
      have HDE1 := hid ((F.block D1 (Array.getElem?_eq_some_iff.1 HD1.out).1 (fun h => h)).trans HD1.out)
      have hD10 : D1 ≠ D0 := by have := (Array.getElem?_eq_some_iff.1 HDT.out).1; omega
      clear hW F c1 c2 q0 qf k0 m2
      refine (works17 _).mono ?_
      rintro r we ⟨rfl, Be⟩
      have HBX := hid (below_then HBE.out Be)
      have HRw := hid (HRes.out.below HBX.out HRes.out.lt)
      have hd0 := hid ((Be.block D0 (Array.getElem?_eq_some_iff.1 HDE0.out).1).trans HDE0.out)
      have hd1 := hid ((Be.block D1 (Array.getElem?_eq_some_iff.1 HDE1.out).1).trans HDE1.out)
      have cz : we.cell? ⟨w.heap.size + 1 + 1, 0, none⟩ = some (.bool false) := HRw.out.cell 0
      have fz : we.frozen? ⟨w.heap.size + 1 + 1, 0, none⟩ = false := HRw.out.frozen 0
      have hDl0 : wC.heap.size ≤ D0 := by omega
      clear Be
      go_wp2
      have HRx := hid (HRw.out.set_ 0 (.bool true))
      have F : Fr (fun j => j = w.heap.size + 1 + 1) we (we.setCell ⟨w.heap.size + 1 + 1, 0, none⟩ (.bool true)) := Fr.setCell (S := fun j => j = w.heap.size + 1 + 1) we ⟨w.heap.size + 1 + 1, 0, none⟩ _ rfl
      have hRl := HRes.out.lt
      have hR0 := HKR.out
      have HD0' := hid ((F.block D0 (Array.getElem?_eq_some_iff.1 hd0.out).1 (by omega)).trans hd0.out)
      have HD1' := hid ((F.block D1 (Array.getElem?_eq_some_iff.1 hd1.out).1 (by omega)).trans hd1.out)
      have HBw := hid ((HBC.out.trans (HBX.out.mono HBC.out.size)).trans (F.below (Nat.le_trans HBC.out.size HBX.out.size) (fun j hj e => by omega)))
      have hwC := HBC.out.size
      clear F cz fz
      generalize World.setCell _ _ _ = wF at *
      have F1 : Fr (fun j => j = D1) wF (wF.putObj D1 (.deferred none)) := Fr.putObj wF D1 _ rfl
      have F2 : Fr (fun j => j = D0) (wF.putObj D1 (.deferred none)) ((wF.putObj D1 (.deferred none)).putObj D0 (.deferred none)) := Fr.putObj _ D0 _ rfl
      have kE := ((HRx.out.fr F1 (by omega)).fr F2 (by omega)).cell 0
      simp only [List.setIfInBounds_toArray, List.set_cons_zero, List.getElem?_toArray, List.getElem?_cons_zero] at kE
      exact bodyPostM_ret2 HD1'.out HD0'.out (fun e => hD10 e.symm) rfl (v := .bool true) (by simp [results, Try.results5, go_sem, kE]) ⟨rfl, (HBw.out.trans (F1.below HBw.out.size (fun j hj e => by omega))).trans (F2.below (Nat.le_trans HBw.out.size F1.size) (fun j hj e => by omega))⟩
  case stop0 =>
    rintro D0 c' k V0 ⟨rfl, hKk, hT, hB, ⟨hkM, hkn⟩, hVs⟩ hD hDl
    have hmin := hid (show (if M < n then (M : Int) else (n : Int)) = ((k : Nat) : Int) by split <;> omega)
    have HKV0 := hid hKk
    have HTV0 := hid hT
    have HBV0 := hid hB
    have HD0 := hid hD
    have hsV0 := hVs
    have Hkn := hid (And.intro hkM hkn)
    clear hkM hkn
    clear hKk hT hB hD hVs
    obtain ⟨c1, c2, -⟩ := HK.out _ HBV0.out
    have q0 : V0.cell? ⟨wC.heap.size, 0, none⟩ = some (.int .i64 0) := HTV0.out.cell 0
    have qf : V0.frozen? ⟨wC.heap.size, 0, none⟩ = false := HTV0.out.frozen 0
    have k0 : V0.cell? ⟨w0.heap.size, 0, none⟩ = some (.int .i64 k) := HKV0.out.cell 0
    have m2 := hmx.out
    have m3 := hmin.out
    gi_wp2
    go_wp2_with fail
    generalize hW : World.alloc _ _ = wT
    have HT1 := hid (show Blk wT V0.heap.size 3 #[.int .i64 1] by rw [← hW]; exact Blk.new V0 _ _)
    have F : Fr (fun _ => False) V0 wT := by rw [← hW]; exact Fr.alloc _ _ _
    have HB1 := hid (HBV0.out.trans (F.below HBV0.out.size (fun _ _ h => h)))
    have HDT := hid ((F.block D0 (Array.getElem?_eq_some_iff.1 HD0.out).1 (fun h => h)).trans HD0.out)
    have hD0l := (Array.getElem?_eq_some_iff.1 HD0.out).1
    clear hW F c1 c2 q0 qf k0 m2 m3 HTV0 HKV0
    rw [rounds_succ]
    have q0 : wT.cell? ⟨V0.heap.size, 0, none⟩ = some (.int .i64 1) := HT1.out.cell 0
    go_wp2_with fail
    generalize hW : World.alloc _ _ = wR1
    have F : Fr (fun _ => False) wT wR1 := by rw [← hW]; exact Fr.alloc _ _ _
    have HN1 := hid (show Blk wR1 wT.heap.size 3 #[.int .i64 (0 : Nat)] by rw [← hW]; exact Blk.new wT _ _)
    have HTR1 := hid (HT1.out.fr F (fun h => h))
    have HDR1 := hid ((F.block D0 (Array.getElem?_eq_some_iff.1 HDT.out).1 (fun h => h)).trans HDT.out)
    have HBR1 := hid (HB1.out.trans (F.below HB1.out.size (fun _ _ h => h)))
    have hsR1 : wT.heap.size < wR1.heap.size := HN1.out.lt
    have hsC1 : wC.heap.size ≤ wT.heap.size := HB1.out.size
    have htb1 : V0.heap.size < wT.heap.size := HT1.out.lt
    clear hW F q0
    refine (wpIn_wide (n := 1)).1 ?_
    refine wpIn_range (gf := 42) (lb := #[.pointer (some ⟨w1.heap.size + 1 + 1, 0, none⟩)]) rfl (enters_of Try.func42 (by kernel_rfl) rfl) HIT.out HBR1.out (fun _ => rfl)
      (fun k V => Blk V wT.heap.size 3 #[.int .i64 (k : Nat)] ∧ Blk V V0.heap.size 3 #[.int .i64 1] ∧ Below wC.heap.size wC V ∧ V.heap[D0]? = some (.deferred (some [])) ∧ wR1.heap.size ≤ V.heap.size)
      (fun k c V => False)
      (fun k A V h hf => ⟨h.1.fr hf (by omega), h.2.1.fr hf (by omega), h.2.2.1.trans (hf.below h.2.2.1.size (fun j hj h' => by omega)), (hf.block D0 (Array.getElem?_eq_some_iff.1 h.2.2.2.1).1 (by omega)).trans h.2.2.2.1, Nat.le_trans h.2.2.2.2 hf.size⟩)
      (fun k c A V h hf => h)
      ⟨HN1.out, HTR1.out, HBR1.out, HDR1.out, Nat.le_refl _⟩ (fun h => by cases h) ?a11y ?assign1y ?body1y ?done1y (fun _ _ _ _ h => h.elim)
    case assign1y =>
      intro l k V K hK
      gi_wp2
      exact hK
    case body1y =>
      rintro l k V hk ⟨hKk, hT, hB, hcond, hVs2⟩ hVs
      have hlt := hk n rfl
      obtain ⟨c1, c2, hV⟩ := HK.out _ hB
      obtain ⟨b1, o1, cc, e1, hx⟩ := vw_at17 hV (show k < P.length by rw [Hn.out]; exact hlt)
      rw [Hn.out] at e1
      cases e1
      rw [← Hf.out k] at hx
      generalize f k = x at *
      clear hV
      have k0 : V.cell? ⟨wT.heap.size, 0, none⟩ = some (.int .i64 k) := hKk.cell 0
      have kf : V.frozen? ⟨wT.heap.size, 0, none⟩ = false := hKk.frozen 0
      have q0 : V.cell? ⟨V0.heap.size, 0, none⟩ = some (.int .i64 1) := hT.cell 0
      have HKk := hid hKk
      have HT := hid hT
      have HB := hid hB
      have Hc := hid hcond
      have HVs := hid hVs2
      have hd0 : decide ((n : Int) ≤ (k : Int)) = false := decide_eq_false (by omega)
      have hd00 : decide (n ≤ k) = false := decide_eq_false (by omega)
      have hk5 : k ≤ 100000 := by omega
      have n3 : ¬ V0.heap.size = wT.heap.size := by omega
      have n5 : ¬ w.heap.size + 1 = wT.heap.size := by have := HKM.out; omega
      clear hKk hT hB hcond hk HIT hVs2
      gi_wp2
      generalize hW : World.setCell _ _ _ = W5
      obtain ⟨hK5, hF5⟩ := n_post HKk.out hW
      exact ⟨KeepT.of_fr hF5 (fun j hj h => by omega), hK5, HT.out.fr hF5 (by omega), HB.out.trans (hF5.below HB.out.size (fun j hj h => by omega)), (hF5.block D0 (Array.getElem?_eq_some_iff.1 Hc.out).1 (by omega)).trans Hc.out, Nat.le_trans HVs.out hF5.size⟩
    case done1y =>
      rintro D1 n' V1 hn' ⟨hKk, hT, hB, hcond, hVs⟩ hD hDl
      obtain rfl : n = n' := by cases hn'; rfl
      have HKV1 := hid hKk
      have HTV1 := hid hT
      have HBV1 := hid hB
      have HD1 := hid hD
      have hsV1 := hVs
      have HDV := hid hcond
      clear hcond
      clear hKk hT hB hD hVs
      obtain ⟨c1, c2, -⟩ := HK.out _ HBV1.out
      have q0 : V1.cell? ⟨V0.heap.size, 0, none⟩ = some (.int .i64 1) := HTV1.out.cell 0
      have qf : V1.frozen? ⟨V0.heap.size, 0, none⟩ = false := HTV1.out.frozen 0
      have k0 : V1.cell? ⟨wT.heap.size, 0, none⟩ = some (.int .i64 n) := HKV1.out.cell 0
      have m2 := hmx.out
      go_wp2_with fail
      rw [rounds_succ]
      go_wp2_with fail
      generalize hW : World.alloc _ _ = wE
      have F : Fr (fun _ => False) V1 wE := by rw [← hW]; exact Fr.alloc _ _ _
      have HBE := hid (HBV1.out.trans (F.below HBV1.out.size (fun _ _ h => h)))
      have HDE0 := hid ((F.block D0 (Array.getElem?_eq_some_iff.1 HDV.out).1 (fun h => h)).trans HDV.out)
      have HDE1 := hid ((F.block D1 (Array.getElem?_eq_some_iff.1 HD1.out).1 (fun h => h)).trans HD1.out)
      have hD10 : D1 ≠ D0 := by have := (Array.getElem?_eq_some_iff.1 HDT.out).1; omega
      clear hW F c1 c2 q0 qf k0 m2
      refine (works17 _).mono ?_
      rintro r we ⟨rfl, Be⟩
      have HBX := hid (below_then HBE.out Be)
      have HRw := hid (HRes.out.below HBX.out HRes.out.lt)
      have hd0 := hid ((Be.block D0 (Array.getElem?_eq_some_iff.1 HDE0.out).1).trans HDE0.out)
      have hd1 := hid ((Be.block D1 (Array.getElem?_eq_some_iff.1 HDE1.out).1).trans HDE1.out)
      have cz : we.cell? ⟨w.heap.size + 1 + 1, 0, none⟩ = some (.bool false) := HRw.out.cell 0
      have fz : we.frozen? ⟨w.heap.size + 1 + 1, 0, none⟩ = false := HRw.out.frozen 0
      have hDl0 : wC.heap.size ≤ D0 := by omega
      clear Be
      go_wp2
      have HRx := hid (HRw.out.set_ 0 (.bool true))
      have F : Fr (fun j => j = w.heap.size + 1 + 1) we (we.setCell ⟨w.heap.size + 1 + 1, 0, none⟩ (.bool true)) := Fr.setCell (S := fun j => j = w.heap.size + 1 + 1) we ⟨w.heap.size + 1 + 1, 0, none⟩ _ rfl
      have hRl := HRes.out.lt
      have hR0 := HKR.out
      have HD0' := hid ((F.block D0 (Array.getElem?_eq_some_iff.1 hd0.out).1 (by omega)).trans hd0.out)
      have HD1' := hid ((F.block D1 (Array.getElem?_eq_some_iff.1 hd1.out).1 (by omega)).trans hd1.out)
      have HBw := hid ((HBC.out.trans (HBX.out.mono HBC.out.size)).trans (F.below (Nat.le_trans HBC.out.size HBX.out.size) (fun j hj e => by omega)))
      have hwC := HBC.out.size
      clear F cz fz
      generalize World.setCell _ _ _ = wF at *
      have F1 : Fr (fun j => j = D1) wF (wF.putObj D1 (.deferred none)) := Fr.putObj wF D1 _ rfl
      have F2 : Fr (fun j => j = D0) (wF.putObj D1 (.deferred none)) ((wF.putObj D1 (.deferred none)).putObj D0 (.deferred none)) := Fr.putObj _ D0 _ rfl
      have kE := ((HRx.out.fr F1 (by omega)).fr F2 (by omega)).cell 0
      simp only [List.setIfInBounds_toArray, List.set_cons_zero, List.getElem?_toArray, List.getElem?_cons_zero] at kE
      exact bodyPostM_ret2 HD1'.out HD0'.out (fun e => hD10 e.symm) rfl (v := .bool true) (by simp [results, Try.results5, go_sem, kE]) ⟨rfl, (HBw.out.trans (F1.below HBw.out.size (fun j hj e => by omega))).trans (F2.below (Nat.le_trans HBw.out.size F1.size) (fun j hj e => by omega))⟩
end Go.Proofs.Ytighnjbcnfnpmaa

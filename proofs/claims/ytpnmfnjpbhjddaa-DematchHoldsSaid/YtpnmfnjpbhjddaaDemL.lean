/- userplanelaw12.DematchHolds: past the guard. -/
import Derived.Test.YtpnmfnjpbhjddaaDemH
namespace Go.Proofs.Ytpnmfnjpbhjddaa
open Go.RowKit Go.Shelf
set_option linter.unusedVariables false
attribute [local go_sem ↓] Go.wp_at_zero Go.wp_at_succ
set_option maxRecDepth 100000 in
set_option maxHeartbeats 8000000 in
theorem holds_in (w : World) (k f : Nat) (limit seed : Int) (v4 : Value) (R : List Int) (v5 : Value) (S : List Int) (v6 : Value) (M : List Int) (h4 : IntsIn .i64 w v4 R) (h5 : IntsIn .i64 w v5 S) (h6 : IntsIn .i64 w v6 M)
    (hk : k ≤ 200) (hv : Rm.valid k f limit = true) (g1 : R.length ≤ 6) (g2 : R.length ≤ S.length) (g3 : R.length ≤ M.length) :
    Calls Try.prog 3 #[.int .i64 k, .int .i64 f, .int .i64 limit, .int .i64 seed, v4, v5, v6] w fun e w' => e = .returned (.bool true) ∧ Below w.heap.size w w' := by
  have CW := hid (fun w => works12 w)
  have CV := hid (fun w => refValid10_any k f limit w)
  rw [hv] at CV
  obtain ⟨l1, l2, l3, l4, l5⟩ := Rm.valid_of hv
  have hfk : f < k := by omega
  have HV := hid hv
  have hk40 := hid l1
  have HX4 := hid h4.1
  have HX5 := hid h5.1
  have HX6 := hid h6.1
  obtain ⟨a4, c4, rfl, _⟩ := h4.1
  obtain ⟨a5, c5, rfl, _⟩ := h5.1
  obtain ⟨a6, c6, rfl, _⟩ := h6.1
  simp only [List.length_map] at HX4 HX5 HX6 ⊢
  clear h4 h5 h6 hv l1 l2 l3 l4 l5
  obtain ⟨nr, hnr⟩ : ∃ nr : Nat, nr = R.length := ⟨_, rfl⟩
  obtain ⟨ns, hns⟩ : ∃ ns : Nat, ns = S.length := ⟨_, rfl⟩
  obtain ⟨nm, hnm⟩ : ∃ nm : Nat, nm = M.length := ⟨_, rfl⟩
  rw [← hnr] at g1 g2 g3 HX4 ⊢
  rw [← hns] at g2 HX5 ⊢
  rw [← hnm] at g3 HX6 ⊢
  have HR := hid hnr
  have HS := hid hns
  have HM := hid hnm
  clear hnr hns hnm
  have d0 : decide (200 < (k : Int)) = false := decide_eq_false (by omega)
  have d1 : decide (6 < (nr : Int)) = false := decide_eq_false (by omega)
  have d2 : decide ((ns : Int) < (nr : Int)) = false := decide_eq_false (by omega)
  have d3 : decide ((nm : Int) < (nr : Int)) = false := decide_eq_false (by omega)
  obtain ⟨D, hD⟩ : ∃ D : Nat, D = 3 * (k + 4) := ⟨_, rfl⟩
  have HD := hid hD
  have hDb : D ≤ 612 := by omega
  have hD0 : 3 * k < D := by omega
  have e1 : IntKind.i64.wrap ((k : Int) + 4) = (k : Int) + 4 := IntWalk.i64_in _ (by omega)
  have e2 : IntKind.i64.wrap (3 * ((k : Int) + 4)) = (D : Int) := by rw [IntWalk.i64_in _ (by omega)]; omega
  have HE := hid (show 3 * ((k : Int) + 4) = (D : Int) by omega)
  clear hD
  go_enter Try.func3, Try.ntmps3
  go_wp2_with (first
    | (go_at_call 5; refine (CV.out _).mono ?_; rintro r w' ⟨rfl, rfl⟩)
    | (at_make; refine wpList_run_value rfl (exec_make_one belemD (.tmp 63) (.tmp 63) rfl .i64 .i64 _ _ D D rfl rfl (by first | rfl | exact e2 | exact HE.out) (by first | rfl | exact e2 | exact HE.out) (Nat.le_refl _) (by omega) (by omega)) ?_;
       generalize hW2 : World.alloc _ _ = w2; have F2 : Fr (fun _ => False) w w2 := (by rw [← hW2]; exact Fr.alloc _ _ _);
       have HO2 := hid (show OwnL w2 w.heap.size 5 (.slice (some ⟨w.heap.size, 0, none⟩) D D) ((List.replicate D 0).map (Value.int .u8)) by rw [← hW2, List.map_replicate]; exact OwnL.zeros w _ _ _ _ (by omega) (by omega));
       have HB2 := hid (F2.below (Nat.le_refl w.heap.size) (fun _ _ h => h)); clear hW2 F2)
    | fail)
  obtain ⟨gw, hgw⟩ : ∃ gw, gw = w.heap.size := ⟨_, rfl⟩
  rw [← hgw] at HO2 HB2 ⊢
  have HGW := hid hgw
  clear hgw
  go_loopw [16, 17] (fun x i wr => ∃ (m : Nat) (X : Int) (B : List Int), m ≤ D ∧ i = .int .i64 m ∧ x = .int .u32 X ∧ Hid (B.length = D ∧ ∀ j, B.getD j 0 = 0 ∨ B.getD j 0 = 1) ∧ Hid (OwnL wr gw 5 (.slice (some ⟨gw, 0, none⟩) D D) (B.map (Value.int .u8))) ∧ Hid (Below gw w wr)) (fun _ i _ => D - (intOf i).toNat)
  case atStart => exact ⟨0, _, List.replicate D 0, Nat.zero_le _, rfl, rfl, ⟨List.length_replicate, fun j => .inl (by rw [List.getD_eq_getElem?_getD, List.getElem?_replicate]; split <;> rfl)⟩, HO2, HB2⟩
  case round =>
    obtain ⟨m, X, B, hm, rfl, rfl, hBb, hO, hB⟩ := hrel
    by_cases hlt : m < D
    · have x1 := hO.out.at m (by rw [List.length_map, hBb.out.1]; omega)
      have z1 := hO.out.free m
      generalize (B.map (Value.int .u8))[m]'_ = v1 at x1
      go_wp2
      have HXB := hid (show (X * 1664525 + 1013904223) % 4294967296 / 2147483648 = 0 ∨ (X * 1664525 + 1013904223) % 4294967296 / 2147483648 = 1 by omega)
      generalize (X * 1664525 + 1013904223) % 4294967296 / 2147483648 = XB at HXB ⊢
      go_roundw
      case rel =>
        exact ⟨m + 1, _, B.set m XB, by omega, by go_num, rfl, ⟨by rw [List.length_set]; exact hBb.out.1, fun j => by rw [De.set_at _ _ _ _ (by rw [hBb.out.1]; exact hlt)]; split <;> first | exact HXB.out | exact hBb.out.2 j⟩, hO.out.stoB m XB, hB.out.trans ((Fr.setCell (S := fun j => j = gw) wr ⟨gw, m, none⟩ (.int .u8 XB) rfl).below (by have := hB.out.size; have := HGW.out; omega) (fun j hj e => by omega))⟩
      case measure => simp [intOf]; omega
    · obtain rfl : D = m := by omega
      clear HO2 HB2 hm hlt
      go_wp2
      obtain ⟨wz, h⟩ : ∃ wz, wz = wr := ⟨_, rfl⟩
      subst h
      go_loopw [18] (fun i wr => ∃ (m : Nat) (B : List Int), m ≤ f ∧ i = .int .i64 m ∧ Hid (B.length = D ∧ ∀ j, B.getD j 0 = 0 ∨ B.getD j 0 = 1) ∧ Hid (∀ j, (j < m ∨ (k + 4 ≤ j ∧ j < k + 4 + m)) → B.getD j 0 = 0) ∧ Hid (OwnL wr gw 5 (.slice (some ⟨gw, 0, none⟩) D D) (B.map (Value.int .u8))) ∧ Hid (Below gw w wr)) (fun i _ => f - (intOf i).toNat)
      case atStart => exact ⟨0, B, Nat.zero_le _, rfl, hBb, fun j hj => by omega, hO, hB⟩
      case round =>
        clear hO hB hBb
        obtain ⟨m, B, hm, rfl, hBb, hFl, hO, hB⟩ := hrel
        by_cases hlt : m < f
        · have x1 := hO.out.at m (by rw [List.length_map, hBb.out.1]; omega)
          have z1 := hO.out.free m
          have x2 := hO.out.at (k + 4 + m) (by rw [List.length_map, hBb.out.1]; omega)
          have z2 := hO.out.free (k + 4 + m)
          generalize (B.map (Value.int .u8))[m]'_ = v1 at x1
          generalize (B.map (Value.int .u8))[k + 4 + m]'_ = v2 at x2
          have e3 : IntKind.i64.wrap ((k : Int) + 4 + (m : Int)) = ((k + 4 + m : Nat) : Int) := by rw [IntWalk.i64_in _ (by omega)]; omega
          go_wp2
          go_roundw
          case rel =>
            have F : Fr (fun j => j = gw) wr ((wr.setCell ⟨gw, m, none⟩ (.int .u8 0)).setCell ⟨gw, k + 4 + m, none⟩ (.int .u8 0)) := (Fr.setCell (S := fun j => j = gw) _ ⟨gw, m, none⟩ _ rfl).trans (Fr.setCell (S := fun j => j = gw) _ ⟨gw, k + 4 + m, none⟩ _ rfl)
            have hat : ∀ j, ((B.set m 0).set (k + 4 + m) 0).getD j 0 = if k + 4 + m = j then 0 else if m = j then 0 else B.getD j 0 := fun j => by
              rw [De.set_at _ _ _ _ (by rw [List.length_set, hBb.out.1]; omega), De.set_at _ _ _ _ (by rw [hBb.out.1]; omega)]
            refine ⟨m + 1, (B.set m 0).set (k + 4 + m) 0, by omega, by go_num, ⟨by rw [List.length_set, List.length_set]; exact hBb.out.1, fun j => ?_⟩, fun j hj => ?_, (hO.out.stoB m 0).stoB (k + 4 + m) 0, hB.out.trans (F.below (by have := hB.out.size; have := HGW.out; omega) (fun j hj e => by omega))⟩
            · rw [hat]; split
              · exact .inl rfl
              · split
                · exact .inl rfl
                · exact hBb.out.2 j
            · rw [hat]; split
              · rfl
              · split
                · rfl
                · exact hFl.out j (by omega)
          case measure => simp [intOf]; omega
        · obtain rfl : f = m := by omega
          obtain ⟨W, hW⟩ : ∃ W, W = B := ⟨_, rfl⟩
          subst hW
          obtain ⟨wA, hwA⟩ : ∃ wA, wA = wr := ⟨_, rfl⟩
          subst hwA
          clear hm hlt
          have HNew := hid (dnew_ok k f limit HV.out wA)
          have HU0 := hid (De.usable_ok HV.out)
          have HUs := hid (fun W => rmUsable_any k f limit W)
          rw [HU0.out.1] at HUs
          generalize hu : (Rm.usableR k f limit).1 = u at HUs HU0
          have HUe := hid hu
          have hub : u ≤ 18528 := HU0.out.2
          clear hu HU0
          go_wp2_with fail
          refine HNew.out.mono ?_
          rintro r w1 ⟨⟨g, q, rfl, hgA, hqA, hD1⟩, B1⟩
          have HD1 := hid hD1
          have hgwA : gw < wA.heap.size := (hO.out.block (g := gw) rfl).2
          have HO1 := hid (hO.out.blw B1)
          have hsA := hB.out.size
          have HB1 := hid (hB.out.trans (B1.mono (by have := HGW.out; omega)))
          have hne := hD1.ne
          have hgl := hD1.lt.1
          have hql := hD1.lt.2
          clear hD1 B1 HNew hO hB
          go_wp2_with fail
          refine (HUs.out _).mono ?_
          rintro r w2 ⟨rfl, B2⟩
          have HD2 := hid (HD1.out.blw B2)
          have HO2 := hid (HO1.out.blw B2)
          have hs1 := HB1.out.size
          have HB2 := hid (HB1.out.trans (B2.mono (by have := HGW.out; omega)))
          have hs2 := B2.size
          clear B2 HD1 HO1 HB1 HUs
          have e4 : IntKind.i64.wrap (2 * (f : Int)) = ((2 * f : Nat) : Int) := by rw [IntWalk.i64_in _ (by omega)]; omega
          go_wp2_with (first
            | (go_at_call 9; refine (num_any _ _).mono ?_; rintro r w' ⟨rfl, rfl⟩)
            | fail)
          -- THE TRANSMISSIONS
          have HBt := hid (fun U U' (h : Below gw w U) (h' : Below U.heap.size U U') => (show Below w.heap.size w U' from by have h1 := h.trans (h'.mono (by have := h.size; have := HGW.out; omega)); rwa [HGW.out] at h1))
          have HWl := hid hBb.out.1
          have HWb := hid hBb.out.2
          have HFl2 := hid hFl.out
          clear hBb hFl hs1
          go_loopw [23, 24] (fun kn i wr => ∃ (m K n : Nat) (V : List Int), m ≤ nr ∧ i = .int .i64 m ∧ kn = .int .i64 K ∧ n ≤ 1000 * m ∧ K ≤ 20000 ∧ Hid (DB wr g q k f limit V n) ∧ Hid (De.Inv V W) ∧ Hid (De.Fil V k f) ∧ Hid (K ≤ De.known V) ∧ Hid (OwnL wr gw 5 (.slice (some ⟨gw, 0, none⟩) D D) (W.map (Value.int .u8))) ∧ Hid (Below gw w wr) ∧ w2.heap.size ≤ wr.heap.size) (fun _ i _ => nr - (intOf i).toNat)
          case atStart =>
            exact ⟨0, 2 * f, 0, De.freshN k f, Nat.zero_le _, rfl, rfl, Nat.zero_le _, by omega, HD2, De.fresh_inv hfk (by rw [HWl.out, HD.out]) (fun i hi => HFl2.out i hi), De.fresh_fil hfk, De.known_fill hfk (De.freshN_len _ _) (De.fresh_fil hfk), HO2, HB2, Nat.le_refl _⟩
          case round =>
            obtain ⟨m, K, n, V, hm, rfl, rfl, hn, hK, hDB, hI, hF, hKV, hO, hB, hsw⟩ := hrel
            clear HD2 HO2 HB2
            by_cases hlt : m < nr
            · obtain ⟨b4, o4, c4', q4, x4⟩ := vw_at HX4.out (show m < R.length by have := HR.out; omega)
              obtain ⟨b5, o5, c5', q5, x5⟩ := vw_at HX5.out (show m < S.length by have := HS.out; omega)
              obtain ⟨b6, o6, c6', q6, x6⟩ := vw_at HX6.out (show m < M.length by have := HM.out; omega)
              rw [← HR.out] at q4
              rw [← HS.out] at q5
              rw [← HM.out] at q6
              cases q4
              cases q5
              cases q6
              have hl4 := World.block_lt_of_cell? w _ x4
              have hl5 := World.block_lt_of_cell? w _ x5
              have hl6 := World.block_lt_of_cell? w _ x6
              have hgw := HGW.out
              dsimp only at hl4 hl5 hl6
              generalize R.getD m 0 = rv at x4
              generalize S.getD m 0 = s at x5
              generalize M.getD m 0 = mg at x6
              have HXX := hid (fun U (h : Below gw w U) => (show U.cell? ⟨b4, o4 + m, none⟩ = some (.int .i64 rv) ∧ U.cell? ⟨b5, o5 + m, none⟩ = some (.int .i64 s) ∧ U.cell? ⟨b6, o6 + m, none⟩ = some (.int .i64 mg) from
                ⟨(h.cell (p := ⟨b4, o4 + m, none⟩) (by dsimp only; omega)).trans x4, (h.cell (p := ⟨b5, o5 + m, none⟩) (by dsimp only; omega)).trans x5, (h.cell (p := ⟨b6, o6 + m, none⟩) (by dsimp only; omega)).trans x6⟩))
              clear x4 x5 x6 hl4 hl5 hl6 hgw
              have hns : m < ns := by omega
              have hnm : m < nm := by omega
              by_cases k0 : s < 0
              · have t0 : decide (s < 0) = true := decide_eq_true k0
                clear k0
                obtain ⟨y4, y5, y6⟩ := HXX.out _ hB.out
                go_wp2_with (first
                  | (go_at_call 6; refine (CW.out _).mono ?_; rintro r wz ⟨rfl, Bz⟩)
                  | fail)
                go_ret
                exact ⟨rfl, HBt.out _ _ hB.out Bz⟩
              have t0 : decide (s < 0) = false := decide_eq_false k0
              by_cases k1 : 1000 < s
              · have t1 : decide (1000 < s) = true := decide_eq_true k1
                clear k1
                obtain ⟨y4, y5, y6⟩ := HXX.out _ hB.out
                go_wp2_with (first
                  | (go_at_call 6; refine (CW.out _).mono ?_; rintro r wz ⟨rfl, Bz⟩)
                  | fail)
                go_ret
                exact ⟨rfl, HBt.out _ _ hB.out Bz⟩
              have t1 : decide (1000 < s) = false := decide_eq_false k1
              by_cases k2 : mg < 1
              · have t2 : decide (mg < 1) = true := decide_eq_true k2
                clear k2
                obtain ⟨y4, y5, y6⟩ := HXX.out _ hB.out
                go_wp2_with (first
                  | (go_at_call 6; refine (CW.out _).mono ?_; rintro r wz ⟨rfl, Bz⟩)
                  | fail)
                go_ret
                exact ⟨rfl, HBt.out _ _ hB.out Bz⟩
              have t2 : decide (mg < 1) = false := decide_eq_false k2
              by_cases k3 : 127 < mg
              · have t3 : decide (127 < mg) = true := decide_eq_true k3
                clear k3
                obtain ⟨y4, y5, y6⟩ := HXX.out _ hB.out
                go_wp2_with (first
                  | (go_at_call 6; refine (CW.out _).mono ?_; rintro r wz ⟨rfl, Bz⟩)
                  | fail)
                go_ret
                exact ⟨rfl, HBt.out _ _ hB.out Bz⟩
              have t3 : decide (127 < mg) = false := decide_eq_false k3
              by_cases k4 : rv < 0
              · have t4 : decide (rv < 0) = true := decide_eq_true k4
                clear k4
                obtain ⟨y4, y5, y6⟩ := HXX.out _ hB.out
                go_wp2_with (first
                  | (go_at_call 6; refine (CW.out _).mono ?_; rintro r wz ⟨rfl, Bz⟩)
                  | fail)
                go_ret
                exact ⟨rfl, HBt.out _ _ hB.out Bz⟩
              have t4 : decide (rv < 0) = false := decide_eq_false k4
              by_cases k5 : 3 < rv
              · have t5 : decide (3 < rv) = true := decide_eq_true k5
                clear k5
                obtain ⟨y4, y5, y6⟩ := HXX.out _ hB.out
                go_wp2_with (first
                  | (go_at_call 6; refine (CW.out _).mono ?_; rintro r wz ⟨rfl, Bz⟩)
                  | fail)
                go_ret
                exact ⟨rfl, HBt.out _ _ hB.out Bz⟩
              have t5 : decide (3 < rv) = false := decide_eq_false k5
              obtain ⟨sn, rfl⟩ := Int.eq_ofNat_of_zero_le (show 0 ≤ s by omega)
              have hsn : sn ≤ 1000 := by omega
              have hm1 : 1 ≤ mg := by omega
              have hm2 : mg ≤ 127 := by omega
              have hr0 : 0 ≤ rv := by omega
              have hr3 : rv ≤ 3 := by omega
              have HRV := hid hr0
              have HRV3 := hid hr3
              have HM1 := hid hm1
              have HM2 := hid hm2
              have HKK := hid hK
              clear k0 k1 k2 k3 k4 k5 hr0 hr3 hm1 hm2
              have hS0 := hid (fun U (h : Below wr.heap.size wr U) => HXX.out U (hB.out.trans (h.mono (by have := hB.out.size; have := HGW.out; omega))))
              have hB0 : Below wr.heap.size wr wr.drew := below_drewN wr 1
              obtain ⟨y4, y5, y6⟩ := HXX.out _ hB.out
              by_cases hE : (Rm.posR k f limit rv sn).2 = 0
              · obtain ⟨p1, p2⟩ := De.posR_ok HV.out hE
                have KM := hid (fun U (h : Below wr.heap.size wr U) => (match_ok U (.slice (some ⟨gw, 0, none⟩) D D) W k f sn limit rv (by omega) (hO.out.blw h).vw (by rw [HWl.out, HD.out]) (Soft.bbad_no fun i hi => by rcases HWb.out i with h | h <;> rw [h] <;> decide) hE (by omega) p1 (fun i hi => by obtain ⟨j, a1, a2, _⟩ := p2 i hi; exact ⟨j, a1, by rw [HWl.out, HD.out]; exact a2⟩)).mono fun e V' h' => (show (∃ v', e = .returned (.tuple #[v', .int .i64 0]) ∧ VwA V' wr.heap.size v' ((Soft.tab (De.sentG W (Rm.posR k f limit rv sn).1) sn).map (Value.int .u8))) ∧ Below wr.heap.size wr V' from
                  ⟨h'.1.elim fun v' hv => ⟨v', hv.1, hv.2.mono h.size⟩, below_then h h'.2⟩))
                have HE0 := hid hE
                have HP1 := hid p1
                have HP2 := hid p2
                clear hE p1 p2
                generalize hAe : (Rm.posR k f limit rv sn).1 = A at KM HP1 HP2
                have HAe := hid hAe
                clear hAe
                go_wp2_with fail
                go_region_held3 (fun U => U.cell? ⟨b4, o4 + m, none⟩ = some (.int .i64 rv) ∧ U.cell? ⟨b5, o5 + m, none⟩ = some (.int .i64 sn) ∧ U.cell? ⟨b6, o6 + m, none⟩ = some (.int .i64 mg)) (exact hS0.out _ (by assumption))
                  ((first
                    | (go_at_call 10; refine (KM.out _ (by assumption)).mono ?_; rintro e w5 ⟨⟨v', rfl, hVS⟩, hB5⟩)))
                all_goals
                  obtain ⟨z4, z5, z6⟩ := hS0.out _ hB5
                  have HB5 := hid hB5
                  have hw5 := hB5.size
                  have hsw5 : w2.heap.size ≤ w5.heap.size := by omega
                  have HI := hid (idealA_ok w5 v' (Soft.tab (De.sentG W A) sn) mg hVS.vw (by rw [Soft.tab_len]; omega) (De.sent_bit HWb.out A sn).2 (by have := HM1.out; omega) HM2.out (De.sent_bit HWb.out A sn).1)
                  rw [De.sent_len, show Soft.tab (Soft.idlG (Soft.tab (De.sentG W A) sn) mg) sn = De.idl W A mg sn from rfl] at HI
                  obtain ⟨aS, cS, rfl, _⟩ := hVS.vw
                  rw [List.length_map, De.sent_len] at HI ⊢
                  have HD5 := hid (hDB.out.blw hB5)
                  have HO5 := hid (hO.out.blw hB5)
                  have HBa5 := hid (hB.out.trans (hB5.mono (by have := hB.out.size; have := HGW.out; omega)))
                  clear y4 y5 y6 hB0 hB5 hVS KM
                  go_wp2_with (first
                    | (go_at_call 9; refine (num_any _ _).mono ?_; rintro r w' ⟨rfl, rfl⟩)
                    | fail)
                  refine HI.out.mono ?_
                  rintro r w6 ⟨⟨v', rfl, hVL⟩, hB6⟩
                  have hw6 := hB6.size
                  have HD6 := hid (HD5.out.blw hB6)
                  have HO6 := hid (HO5.out.blw hB6)
                  have HBa6 := hid (HBa5.out.trans (hB6.mono (by have := HBa5.out.size; have := HGW.out; omega)))
                  have hIb := De.idl_bad W A HM1.out HM2.out sn
                  have hAdd := dadd_ok rv HD6.out (L := De.idl W A mg sn) hVL.vw (by rw [De.idl_len]; omega) hIb (by rw [De.idl_len]; exact HE0.out) (by rw [hI.out.1, HWl.out]; omega) (by rw [De.idl_len, HAe.out]; exact HP1.out)
                    (fun i hi => by rw [De.idl_len] at hi ⊢; rw [HAe.out]; obtain ⟨j, a1, a2, _⟩ := HP2.out i hi; exact ⟨j, a1, by rw [hI.out.1, HWl.out, HD.out]; exact a2⟩)
                    (fun b off n c e h0 => by have := hVL.hi b off n c e; omega) (by omega) (by omega)
                  rw [De.idl_len, HAe.out] at hAdd
                  have HAdd := hid hAdd
                  have HRd := hid (De.round_ok (n := sn) HV.out HE0.out hI.out hF.out (by rw [HWl.out, HD.out]) (fun i _ => HWb.out i) HM1.out HM2.out A (De.idl W A mg sn) HAe.out.symm (fun i hi => De.idl_at W A mg hi))
                  obtain ⟨al, cl, rfl, _⟩ := hVL.vw
                  rw [List.length_map, De.idl_len] at HAdd ⊢
                  obtain ⟨y4, y5, y6⟩ := HXX.out _ HBa6.out
                  clear hAdd hVL hIb z4 z5 z6 HD5 HO5 HBa5
                  go_wp2_with (first
                    | (go_at_call 9; refine (num_any _ _).mono ?_; rintro r w' ⟨rfl, rfl⟩)
                    | fail)
                  refine HAdd.out.mono ?_
                  rintro r w7 ⟨rfl, hD7, hF7⟩
                  have HRd2 := hid HRd.out
                  rw [show ((n : Int) + (sn : Int)) = ((n + sn : Nat) : Int) by push_cast; rfl] at hD7
                  rw [HUe.out] at HRd2
                  have HD7 := hid hD7
                  have HO7 := hid (HO6.out.fr hF7 (fun g' e => by simp [Value.ownBlock] at e; omega))
                  have HBa7 := hid (HBa6.out.trans (hF7.below (by have := HBa6.out.size; have := HGW.out; omega) (fun j hj e => by omega)))
                  have hw7 := hF7.size
                  have hsw7 : w2.heap.size ≤ w7.heap.size := by omega
                  obtain ⟨z4, z5, z6⟩ := HXX.out _ HBa7.out
                  have e5 : IntKind.i64.wrap (((2 * f : Nat) : Int) + (u : Int)) = ((2 * f + u : Nat) : Int) := by rw [IntWalk.i64_in _ (by omega)]; omega
                  clear y4 y5 y6 hD7 hF7 HAdd HRd HD6 HO6 HBa6 HI
                  by_cases hus : u ≤ sn
                  · have t6 : decide ((u : Int) ≤ (sn : Int)) = true := decide_eq_true (by omega)
                    have t7 : decide (u ≤ sn) = true := decide_eq_true hus
                    have HUS := hid hus
                    go_wp2_with (first
                      | (go_at_call 9; refine (num_any _ _).mono ?_; rintro r w' ⟨rfl, rfl⟩)
                      | fail)
                    go_roundw
                    case rel => exact ⟨m + 1, 2 * f + u, n + sn, _, by omega, by go_num, rfl, by omega, by omega, HD7, HRd2.out.1, HRd2.out.2.1, HRd2.out.2.2.2 HUS.out, HO7, HBa7, hsw7⟩
                    case measure => simp [intOf]; omega
                  · have t6 : decide ((u : Int) ≤ (sn : Int)) = false := decide_eq_false (by omega)
                    have t7 : decide (u ≤ sn) = false := decide_eq_false hus
                    go_wp2_with (first
                      | (go_at_call 9; refine (num_any _ _).mono ?_; rintro r w' ⟨rfl, rfl⟩)
                      | fail)
                    go_roundw
                    case rel => exact ⟨m + 1, K, n + sn, _, by omega, by go_num, rfl, by omega, by omega, HD7, HRd2.out.1, HRd2.out.2.1, Nat.le_trans hKV.out HRd2.out.2.2.1, HO7, HBa7, hsw7⟩
                    case measure => simp [intOf]; omega
              · obtain ⟨p1, p2, p3⟩ := De.posR_none HV.out HRV.out HRV3.out (show sn ≤ 131072 by omega) hE
                rw [HUe.out] at p2
                have KM := hid (fun U (h : Below wr.heap.size wr U) => (match_none U (.slice (some ⟨gw, 0, none⟩) D D) W k f limit rv sn 10 (by omega) (hO.out.blw h).vw (by rw [HWl.out, HD.out]) (Soft.bbad_no fun i hi => by rcases HWb.out i with h | h <;> rw [h] <;> decide) p1 (by decide) (by decide)).mono fun e V' h' => (show e = .returned (.tuple #[.slice none 0 0, .int .i64 10]) ∧ Below wr.heap.size wr V' from
                  ⟨h'.1, below_then h h'.2⟩))
                have hu0 : (u : Int) = 0 := by omega
                have hsp : decide ((0 : Int) < (sn : Int)) = true := decide_eq_true (by omega)
                have hsp2 : decide (0 < sn) = true := decide_eq_true p3
                clear hE p1 p2
                go_wp2_with fail
                go_region_held3 (fun U => U.cell? ⟨b4, o4 + m, none⟩ = some (.int .i64 rv) ∧ U.cell? ⟨b5, o5 + m, none⟩ = some (.int .i64 sn) ∧ U.cell? ⟨b6, o6 + m, none⟩ = some (.int .i64 mg)) (exact hS0.out _ (by assumption))
                  ((first
                    | (go_at_call 10; refine (KM.out _ (by assumption)).mono ?_; rintro e w5 ⟨rfl, hB5⟩)))
                all_goals
                  obtain ⟨z4, z5, z6⟩ := hS0.out _ hB5
                  have HB5 := hid hB5
                  clear y4 y5 y6 hB0 hB5
                  go_wp2_with (first
                    | (go_at_call 9; refine (num_any _ _).mono ?_; rintro r w' ⟨rfl, rfl⟩)
                    | (go_at_call 6; refine (CW.out _).mono ?_; rintro r wz ⟨rfl, Bz⟩)
                    | fail)
                  go_ret
                  exact ⟨rfl, HBt.out _ _ hB.out (below_then HB5.out Bz)⟩
            · obtain rfl : nr = m := by omega
              have HVl := hid (show V.length = D by rw [hI.out.1, HWl.out])
              have CV2 := hid (dvalues_any hDB.out (by rw [HVl.out]; omega))
              have hkun := De.known_un V V.length
              rw [HVl.out] at hkun
              generalize hkn : (Gr.sel (De.nz V) D).length = kv at hkun
              have HKn := hid (show De.known V = kv by unfold De.known; rw [HVl.out]; exact hkn)
              have HCmp := hid (show Soft.cmpR V W = (0, Soft.unknownN V D, 0) by rw [Soft.cmpR_ok (De.inv_bad hI.out) hI.out.1 (Soft.bbad_no fun i hi => by rcases HWb.out i with h | h <;> rw [h] <;> decide), hI.out.1, De.inv_wrong hI.out _ (Nat.le_refl _), HWl.out])
              generalize Soft.unknownN V D = un at HCmp hkun
              have hKk : K ≤ kv := by have := hKV.out; rw [HKn.out] at this; exact this
              clear hkn
              go_wp2_with fail
              refine CV2.out.mono ?_
              rintro r w8 ⟨⟨v', rfl, hOV⟩, hB8⟩
              have HD8 := hid (hDB.out.blw hB8)
              have HO8 := hid (hO.out.blw hB8)
              have HCp := hid (refCompare_any w8 v' (.slice (some ⟨gw, 0, none⟩) D D) V W hOV.vw HO8.out.vw (by rw [HVl.out]; omega) (by rw [HWl.out]; omega) (fun x hx => by obtain ⟨i, hi, rfl⟩ := List.mem_iff_getElem.1 hx; have := HWb.out i; rw [List.getD_eq_getElem?_getD, List.getElem?_eq_getElem hi, Option.getD_some] at this; rcases this with h | h <;> rw [h] <;> decide))
              rw [HCmp.out] at HCp
              obtain ⟨aV, cV, rfl⟩ := hOV.is_slice
              rw [List.length_map, HVl.out] at HCp ⊢
              have HB8 := hid hB8
              clear hOV hB8 CV2 hDB hO HCmp
              go_wp2_with fail
              refine HCp.out.mono ?_
              rintro r w9 ⟨rfl, hB9⟩
              have HD9 := hid (HD8.out.blw hB9)
              have HB9 := hid (below_then HB8.out hB9)
              have CK := hid (dknown_any HD9.out (by rw [HVl.out]; omega))
              rw [HKn.out] at CK
              have e6 : IntKind.i64.wrap ((D : Int) - (un : Int)) = (kv : Int) := by rw [IntWalk.i64_in _ (by omega)]; omega
              have e7 : (D : Int) - (un : Int) = (kv : Int) := by omega
              have t8 : decide ((K : Int) ≤ (kv : Int)) = true := decide_eq_true (by omega)
              have t9 : decide (K ≤ kv) = true := decide_eq_true hKk
              clear HCp HD8 HO8 HB8 hB9 hkun hKV
              go_wp2_with fail
              refine CK.out.mono ?_
              rintro r w10 ⟨rfl, hB10⟩
              go_wp2_with (first
                | (go_at_call 6; refine (CW.out _).mono ?_; rintro r wz ⟨rfl, Bz⟩)
                | fail)
              go_ret
              exact ⟨rfl, HBt.out _ _ hB.out (below_then (below_then HB9.out hB10) Bz)⟩
end Go.Proofs.Ytpnmfnjpbhjddaa

/- userplanelaw10: RatematchCovers. -/
import Derived.Test.YtloldjmibjkkkaaLaws10e
import Derived.BigQuiet
namespace Go.Proofs.Ytloldjmibjkkkaa
open Go.RowKit Go.Shelf
set_option linter.unusedVariables false
set_option maxRecDepth 100000 in
set_option maxHeartbeats 1000000 in
theorem covers_far (k f limit rv e : Int) (h : 20000 < e) (w : World) :
    Calls Try.prog 6 #[.int .i64 k, .int .i64 f, .int .i64 limit, .int .i64 rv, .int .i64 e] w fun e w' => e = .returned (.bool true) ∧ Below w.heap.size w w' := by
  go_enter Try.func6, Try.ntmps6
  go_wp2_with fail
  refine (known10_true _).mono ?_
  rintro e w1 ⟨rfl, B1⟩
  go_wp2
  go_ret
  exact ⟨rfl, B1⟩
set_option maxRecDepth 100000 in
set_option maxHeartbeats 1000000 in
theorem covers_no (k f limit rv e : Int) (h1 : e ≤ 20000) (h : (Rm.posR k f limit rv e).2 ≠ 0) (w : World) :
    Calls Try.prog 6 #[.int .i64 k, .int .i64 f, .int .i64 limit, .int .i64 rv, .int .i64 e] w fun e w' => e = .returned (.bool true) ∧ Below w.heap.size w w' := by
  have C1 := hid (rmPos_any k f limit rv e)
  have C2 := hid (rmBuffer_any k f limit)
  have C3 := hid (rmUsable_any k f limit)
  generalize Rm.posR k f limit rv e = r1 at *
  obtain ⟨A, n1⟩ := r1
  have hd : (n1 != 0) = true := by rw [bne_iff_ne]; exact h
  have hd3 : ¬ n1 = 0 := h
  clear h
  dsimp only at C1
  go_enter Try.func6, Try.ntmps6
  go_wp2_with fail
  refine (C1.out _).mono ?_
  rintro e w1 ⟨⟨v1, rfl, V1⟩, B1⟩
  clear V1
  go_wp2_with fail
  refine (C2.out _).mono ?_
  rintro e w2 ⟨⟨v2, rfl, V2⟩, B2⟩
  clear V2
  go_wp2_with fail
  refine (C3.out _).mono ?_
  rintro e w3 ⟨rfl, B3⟩
  go_wp2_with fail
  refine (known10_true _).mono ?_
  rintro e w4 ⟨rfl, B4⟩
  go_wp2
  go_ret
  exact ⟨rfl, below_then (below_then (below_then B1 B2) B3) B4⟩
set_option maxRecDepth 100000 in
set_option maxHeartbeats 1000000 in
theorem covers_zero (k f limit rv : Int) (h : (Rm.posR k f limit rv 0).2 = 0) (w : World) :
    Calls Try.prog 6 #[.int .i64 k, .int .i64 f, .int .i64 limit, .int .i64 rv, .int .i64 0] w fun e w' => e = .returned (.bool true) ∧ Below w.heap.size w w' := by
  have C1 := hid (rmPos_any k f limit rv 0)
  have C2 := hid (rmBuffer_any k f limit)
  have C3 := hid (rmUsable_any k f limit)
  rw [h] at C1
  clear h
  go_enter Try.func6, Try.ntmps6
  go_wp2_with fail
  refine (C1.out _).mono ?_
  rintro e w1 ⟨⟨v1, rfl, V1⟩, B1⟩
  clear V1
  go_wp2_with fail
  refine (C2.out _).mono ?_
  rintro e w2 ⟨⟨v2, rfl, V2⟩, B2⟩
  clear V2
  go_wp2_with fail
  refine (C3.out _).mono ?_
  rintro e w3 ⟨rfl, B3⟩
  go_wp2_with fail
  refine (known10_true _).mono ?_
  rintro e w4 ⟨rfl, B4⟩
  go_wp2
  go_ret
  exact ⟨rfl, below_then (below_then (below_then B1 B2) B3) B4⟩
set_option maxRecDepth 100000 in
set_option maxHeartbeats 4000000 in
theorem covers_ok (k f limit rv : Int) (E : Nat) (hE0 : 1 ≤ E) (hE1 : E ≤ 20000) (h : (Rm.posR k f limit rv E).2 = 0) (w : World) :
    Calls Try.prog 6 #[.int .i64 k, .int .i64 f, .int .i64 limit, .int .i64 rv, .int .i64 E] w fun e w' => e = .returned (.bool true) ∧ Below w.heap.size w w' := by
  obtain ⟨K, F, V, E', S, st, L, rfl, rfl, rfl, hE, k1, k2, k3, k4, k5, k6, hv, hS, hL, hl, s1, s2, s3, hbuf, hus, hne, hN, hm⟩ := Rm.posR_stand h
  obtain rfl : E = E' := by omega
  have hu := Rm.cnt_pos (hne (by omega))
  have hN1 : 1 ≤ Rm.cnt L S := by have := hne (by omega); rw [hl] at this; omega
  have hN2 := Rm.cnt_le L S
  have hX := hid (Rm.posL_len (i := st) (e := E) hu)
  obtain ⟨D, hD⟩ : ∃ D, D = 3 * (K + 4) := ⟨_, rfl⟩
  have hr := Rm.rows_bd k1 k2
  have hsz := Rm.size_bd (k := K) k4 k1
  rw [← hS] at hsz
  have hLb : ∀ j, j < S → Rm.us (L.getD j 0) = true → 0 ≤ L.getD j 0 ∧ L.getD j 0 < (D : Int) := fun j hj huj => by
    have hj2 : j < S := hj
    rw [hL] at huj ⊢
    rw [Rm.buf_at hsz.2 hj2] at huj ⊢
    have := Rm.full_bd (by omega) k3 (by omega) huj
    have h0 : 0 ≤ Rm.fullF K F (Rm.rows K) j := by simpa [Rm.us] using huj
    omega
  have HLb := hid hLb
  have HXb := hid (show ∀ j, j < E → 0 ≤ (Rm.posL L st E).getD j 0 ∧ (Rm.posL L st E).getD j 0 < (D : Int) from fun j hj => by
    have hj' : j < (Rm.posL L st E).length := by rw [hX.out]; exact hj
    have hmem : (Rm.posL L st E).getD j 0 ∈ Rm.posL L st E := by simp [List.getD, hj']
    have h2 := Rm.posL_mem hu (by omega) hmem
    obtain ⟨h3, h4⟩ := List.mem_filter.1 h2
    obtain ⟨i, hi, hie⟩ := List.getElem_of_mem h3
    have h5 : L.getD i 0 = (Rm.posL L st E).getD j 0 := by rw [← hie]; simp [List.getD, hi]
    rw [← h5] at h4 ⊢
    exact hLb i (by omega) h4)
  have HOf := hid (show ∀ j, j < S → Rm.us (L.getD j 0) = true → E / Rm.cnt L S ≤ (Rm.posL L st E).count (L.getD j 0) ∧ (Rm.posL L st E).count (L.getD j 0) ≤ (E + Rm.cnt L S - 1) / Rm.cnt L S from fun j hj huj => by
    have hj' : j < L.length := by omega
    have := Rm.posL_often (e := E) hu (show st < L.length by omega) hN (v := L.getD j 0) (List.mem_filter.2 ⟨by simp [List.getD, hj'], huj⟩)
    rwa [hl] at this)
  have HTh := hid (show Rm.thereF L (Rm.posL L st E) S = E from by
    have := Rm.thereF_all (e := E) hu (show st < L.length by omega) hN
    rwa [hl] at this)
  have C1 := hid (show ∀ w, Calls Try.prog 19 #[.int .i64 K, .int .i64 F, .int .i64 limit, .int .i64 V, .int .i64 E] w fun e w' => (∃ v, e = .returned (.tuple #[v, .int .i64 0]) ∧ OwnL w' w.heap.size 3 v ((Rm.posL L st E).map (Value.int .i64))) ∧ Below w.heap.size w w' from fun w => by
    have := rmPosO_any K F limit V E w
    rw [hm E (by omega)] at this
    exact this.mono fun e w' ⟨⟨v, h1, h2, _⟩, B⟩ => ⟨⟨v, h1, h2⟩, B⟩)
  have C2 := hid (rmBuffer_any K F limit)
  rw [hbuf] at C2
  have C3 := hid (rmUsable_any K F limit)
  rw [hus] at C3
  generalize Rm.cnt L S = N at *
  generalize Rm.posL L st E = X at *
  obtain ⟨q1, hq1⟩ : ∃ q, q = E / N := ⟨_, rfl⟩
  obtain ⟨s, hs⟩ : ∃ s, s = E + N := ⟨_, rfl⟩
  obtain ⟨t, ht⟩ : ∃ t, t = E + N - 1 := ⟨_, rfl⟩
  obtain ⟨q2, hq2⟩ : ∃ q, q = t / N := ⟨_, rfl⟩
  rw [← ht, ← hq1, ← hq2] at HOf
  have x1 : (K : Int) + 4 = ((K + 4 : Nat) : Int) := by omega
  obtain ⟨d, hd⟩ : ∃ d, d = K + 4 := ⟨_, rfl⟩
  rw [← hd] at x1
  have x2 : 3 * (d : Int) = (D : Int) := by omega
  have y1 : IntKind.i64.wrap ((K : Int) + 4) = (d : Int) := by rw [x1]; exact IntWalk.i64_in _ (by omega)
  have y0 : IntKind.i64.wrap (d : Int) = (d : Int) := IntWalk.i64_in _ (by omega)
  have yD : IntKind.i64.wrap (D : Int) = (D : Int) := IntWalk.i64_in _ (by omega)
  have y2 : IntKind.i64.wrap (3 * (d : Int)) = (D : Int) := by rw [x2]; exact IntWalk.i64_in _ (by omega)
  have z1 : (E : Int).tdiv (N : Int) = (q1 : Int) := by rw [tdiv_nat, hq1]
  have z2 : (E : Int) + (N : Int) = (s : Int) := by omega
  have z3 : IntKind.i64.wrap ((E : Int) + (N : Int)) = (s : Int) := by rw [z2]; exact IntWalk.i64_in _ (by omega)
  have z4 : (s : Int) - 1 = (t : Int) := by omega
  have zs : IntKind.i64.wrap (s : Int) = (s : Int) := IntWalk.i64_in _ (by omega)
  have zt : IntKind.i64.wrap (t : Int) = (t : Int) := IntWalk.i64_in _ (by omega)
  have z5 : IntKind.i64.wrap ((s : Int) - 1) = (t : Int) := by rw [z4]; exact IntWalk.i64_in _ (by omega)
  have z6 : (t : Int).tdiv (N : Int) = (q2 : Int) := by rw [tdiv_nat, hq2]
  have hq1b : q1 ≤ E := by rw [hq1]; exact Nat.div_le_self _ _
  have hq2b : q2 ≤ t := by rw [hq2]; exact Nat.div_le_self _ _
  have z7 : IntKind.i64.wrap (q1 : Int) = (q1 : Int) := IntWalk.i64_in _ (by omega)
  have z8 : IntKind.i64.wrap (q2 : Int) = (q2 : Int) := IntWalk.i64_in _ (by omega)
  have n1 : ¬ (N : Int) = 0 := by omega
  have n2 : ¬ N = 0 := by omega
  have n3 : (1 : Int) ≤ (N : Int) := by omega
  have e0 : ((E : Int) == 0) = false := by rw [beq_eq_false_iff_ne]; omega
  have e3 : (E : Int) ≤ 20000 := by omega
  have HDb := hid (show D ≤ 20000 by omega)
  have HEb := hid hE1
  have HSb := hid (show 1 ≤ S ∧ S ≤ 20000 from ⟨s1, s2⟩)
  have HL := hid hl
  have HE0 := hid hE0
  clear hm hN hne hus hbuf hv hS hL hl s1 s2 s3 k1 k2 k3 k4 k5 k6 hE h hu hN2 hD hr hsz hLb hq1 hs ht hq2 hd hq1b hq2b hE1 hN1
  go_enter Try.func6, Try.ntmps6
  go_wp2_with fail
  refine (C1.out _).mono ?_
  rintro e w1 ⟨⟨v1, rfl, o1⟩, B1⟩
  obtain ⟨g1, c1, rfl⟩ := o1.shape E (by rw [List.length_map, hX.out]) (by have := HE0.out; omega)
  have hgl1 := (o1.block (g := g1) rfl).2
  have ho1 := hid o1
  clear o1
  go_wp2_with fail
  refine (C2.out _).mono ?_
  rintro e w2 ⟨⟨v2, rfl, o2⟩, B2⟩
  obtain ⟨g2, c2, rfl⟩ := o2.shape S (by rw [List.length_map, HL.out]) (by have := HSb.out; omega)
  have hgl2 := (o2.block (g := g2) rfl).2
  have ho2 := hid o2
  clear o2
  go_wp2_with fail
  refine (C3.out _).mono ?_
  rintro e w3 ⟨rfl, B3⟩
  have h13 := B2.trans (B3.mono B2.size)
  have HC1 := hid (show ∀ j, j < E → w3.cell? ⟨g1, j, none⟩ = some (.int .i64 (X.getD j 0)) from fun j hj => by
    have hj' : j < X.length := by rw [hX.out]; exact hj
    rw [h13.cell (p := ⟨g1, j, none⟩) hgl1, ho1.out.at j (by simpa using hj')]
    simp [List.getD, hj'])
  have HC2 := hid (show ∀ j, j < S → w3.cell? ⟨g2, j, none⟩ = some (.int .i64 (L.getD j 0)) from fun j hj => by
    have hj' : j < L.length := by rw [HL.out]; exact hj
    rw [B3.cell (p := ⟨g2, j, none⟩) hgl2, ho2.out.at j (by simpa using hj')]
    simp [List.getD, hj'])
  have hg1 : g1 < w3.heap.size := Nat.lt_of_lt_of_le hgl1 h13.size
  have hg2 : g2 < w3.heap.size := Nat.lt_of_lt_of_le hgl2 B3.size
  have BB := hid (below_then (below_then B1 B2) B3)
  clear C1 C2 C3 B1 B2 B3 ho1 ho2 h13 hgl1 hgl2
  go_wp2_with (at_make; refine wpList_run_value rfl (exec_make_one elem_int (.tmp 72) (.tmp 72) rfl .i64 .i64 _ _ D D rfl rfl (by first | rfl | exact yD) (by first | rfl | exact yD) (Nat.le_refl _) (by have := HDb.out; omega) (by have := HDb.out; omega)) ?_)
  have HW := hid (show OwnL (w3.alloc (.cells (Array.replicate D (.int .i64 0)) 3)) w3.heap.size 3 (.slice (some ⟨w3.heap.size, 0, none⟩) D D) ((Rm.oftL D X 0).map (Value.int .i64)) by
    rw [Rm.oftL_zero, List.map_replicate]
    exact OwnL.zeros w3 w3.heap.size 3 D (.int .i64 0) (Nat.le_refl _) (by have := HDb.out; omega))
  go_loopw [18] (fun i wr => ∃ j : Nat, j ≤ E ∧ i = .int .i64 j ∧ OwnL wr w3.heap.size 3 (.slice (some ⟨w3.heap.size, 0, none⟩) D D) ((Rm.oftL D X j).map (Value.int .i64)) ∧ Below w3.heap.size w3 wr) (fun i _ => E - (intOf i).toNat)
  case atStart => exact ⟨0, Nat.zero_le _, rfl, HW.out, below_alloc _ _⟩
  case round =>
    clear HW
    obtain ⟨j, hj, rfl, hown, hB⟩ := hrel
    by_cases hlt : j < E
    · have hx := (hB.cell (p := ⟨g1, j, none⟩) hg1).trans (HC1.out j hlt)
      obtain ⟨b1, b2⟩ := HXb.out j hlt
      have HHi := hid (show ∀ y : Nat, X.getD j 0 = (y : Int) → y < D → (Rm.oftL D X j).set y ((((X.take j).count (y : Int) : Nat) : Int) + 1) = Rm.oftL D X (j + 1) from fun y h hy => Rm.oftL_hit (by rw [hX.out]; exact hlt) h hy)
      have HB := hid hB
      have HO := hid hown
      obtain ⟨x, hxe⟩ : ∃ x, x = X.getD j 0 := ⟨_, rfl⟩
      rw [← hxe] at hx b1 b2 HHi
      clear hB hown hxe
      obtain ⟨y, rfl⟩ := Int.eq_ofNat_of_zero_le b1
      have hyD : y < D := by omega
      have hc := HO.out.at y (by rw [List.length_map, Rm.oftL_len]; exact hyD)
      rw [List.getElem_map] at hc
      have hge : (Rm.oftL D X j)[y]'(by rw [Rm.oftL_len]; exact hyD) = (((X.take j).count (y : Int) : Nat) : Int) := by simp [Rm.oftL]
      rw [hge] at hc
      have hcb : (X.take j).count (y : Int) ≤ j := Nat.le_trans List.count_le_length (by rw [List.length_take]; omega)
      have hfz := HO.out.free y
      have HH2 := hid (HHi.out y rfl hyD)
      generalize (X.take j).count (y : Int) = o at *
      have hw1 : IntKind.i64.wrap ((o : Int) + 1) = (o : Int) + 1 := IntWalk.i64_in _ (by have := HEb.out; omega)
      have hst := HO.out.stored y (.int .i64 ((o : Int) + 1))
      rw [← List.map_set, HH2.out] at hst
      have HSt := hid hst
      have HB' := hid (HB.out.trans ((Fr.setCell (S := fun b => b = w3.heap.size) wr ⟨w3.heap.size, y, none⟩ (.int .i64 ((o : Int) + 1)) rfl).below HB.out.size (fun i hi e => by omega)))
      clear hst HHi HH2 HO HB hge hcb
      go_wp2
      go_roundw
      case rel => exact ⟨j + 1, by omega, by go_num, HSt.out, HB'.out⟩
      case measure => simp [intOf]; omega
    · obtain rfl : j = E := by omega
      have HOft := hid (show ∀ y : Nat, y < D → wr.cell? ⟨w3.heap.size, y, none⟩ = some (.int .i64 ((X.count (y : Int) : Nat) : Int)) from fun y hy => by
        rw [hown.at y (by rw [List.length_map, Rm.oftL_len]; exact hy), List.getElem_map]
        have : (Rm.oftL D X j)[y]'(by rw [Rm.oftL_len]; exact hy) = (((X.take j).count (y : Int) : Nat) : Int) := by simp [Rm.oftL]
        rw [this, List.take_of_length_le (by rw [hX.out]; exact Nat.le_refl _)])
      have hg3 : w3.heap.size < wr.heap.size := (hown.block (g := w3.heap.size) rfl).2
      have HB := hid hB
      have hg1' : g1 < wr.heap.size := Nat.lt_trans hg1 hg3
      have hg2' : g2 < wr.heap.size := Nat.lt_trans hg2 hg3
      have HC2' := hid (show ∀ j, j < S → wr.cell? ⟨g2, j, none⟩ = some (.int .i64 (L.getD j 0)) from fun j hj => (hB.cell (p := ⟨g2, j, none⟩) hg2).trans (HC2.out j hj))
      clear hown hB
      obtain ⟨w5, hw5⟩ : ∃ w5, w5 = wr := ⟨_, rfl⟩
      subst hw5
      go_wp2
      go_loopw [19, 20] (fun u i wr => ∃ j : Nat, j ≤ S ∧ u = .int .i64 (Rm.thereF L X j) ∧ i = .int .i64 j ∧ Below w5.heap.size w5 wr) (fun _ i _ => S - (intOf i).toNat)
      case atStart => exact ⟨0, Nat.zero_le _, rfl, rfl, Below.refl _ _⟩
      case round =>
        obtain ⟨j, hj, rfl, rfl, hB5⟩ := hrel
        by_cases hlt : j < S
        · have hjb : (j : Int) < 20000 := by have := HSb.out; omega
          have hx := (hB5.cell (p := ⟨g2, j, none⟩) hg2').trans (HC2'.out j hlt)
          have HBd := hid (HLb.out j hlt)
          have HOj := hid (HOf.out j hlt)
          have HT := hid (show Rm.thereF L X (j + 1) = Rm.thereF L X j + (if Rm.us (L.getD j 0) = true then X.count (L.getD j 0) else 0) from rfl)
          have hmono := Rm.thereF_mono L X (show j + 1 ≤ S by omega)
          rw [HTh.out] at hmono
          have HMo := hid hmono
          obtain ⟨x, hxe⟩ : ∃ x, x = L.getD j 0 := ⟨_, rfl⟩
          rw [← hxe] at hx HBd HOj HT
          have HB5 := hid hB5
          obtain ⟨th0, ht0⟩ : ∃ t, t = Rm.thereF L X j := ⟨_, rfl⟩
          obtain ⟨th1, ht1⟩ : ∃ t, t = Rm.thereF L X (j + 1) := ⟨_, rfl⟩
          rw [← ht0, ← ht1] at HT
          rw [← ht1] at HMo
          rw [← ht0]
          have HT1 := hid ht1
          clear hB5 hxe hmono ht0 ht1
          by_cases hn : x < 0
          · rw [if_neg (by simp [Rm.us]; omega), Nat.add_zero] at HT
            go_wp2
            go_roundw
            case rel => exact ⟨j + 1, by omega, by rw [← HT1.out, HT.out], by go_num, HB5.out⟩
            case measure => simp [intOf]; omega
          · have hus : Rm.us x = true := by simp [Rm.us]; omega
            rw [if_pos hus] at HT
            obtain ⟨b1, b2⟩ := HBd.out hus
            obtain ⟨o1, o2⟩ := HOj.out hus
            obtain ⟨y, rfl⟩ := Int.eq_ofNat_of_zero_le b1
            have hyD : y < D := by omega
            have hc := (HB5.out.cell (p := ⟨w3.heap.size, y, none⟩) hg3).trans (HOft.out y hyD)
            generalize X.count (y : Int) = o at *
            have hx' : wr.drew.cell? ⟨g2, j, none⟩ = some (.int .i64 y) := hx
            have hc' : wr.drew.cell? ⟨w3.heap.size, y, none⟩ = some (.int .i64 o) := hc
            have t1 : decide ((o : Int) < (q1 : Int)) = false := by simp; omega
            have t2 : decide ((q2 : Int) < (o : Int)) = false := by simp; omega
            have t3 : decide ((D : Int) ≤ (y : Int)) = false := by simp; omega
            have w1 : IntKind.i64.wrap ((th0 : Int) + (o : Int)) = (th1 : Int) := by rw [show (th0 : Int) + (o : Int) = (th1 : Int) by have := HT.out; omega]; exact IntWalk.i64_in _ (by have := HMo.out; have := HEb.out; omega)
            have w2 : (th0 : Int) + (o : Int) = (th1 : Int) := by have := HT.out; omega
            have w3' : IntKind.i64.wrap (th1 : Int) = (th1 : Int) := IntWalk.i64_in _ (by have := HMo.out; have := HEb.out; omega)
            clear HT HBd HOj HMo hus
            have HB6 := hid (show ∀ n, Below w5.heap.size w5 (wr.drewN n) from fun n => HB5.out.trans ((Fr.drewN (fun _ => False) wr n).below HB5.out.size (fun _ _ h => h)))
            clear hx' hc'
            have t1n : decide (o < q1) = false := by simp; omega
            have t2n : decide (q2 < o) = false := by simp; omega
            have t3n : decide (D ≤ y) = false := by simp; omega
            have HQ := hid (And.intro t1 (And.intro t2 (And.intro t3 (And.intro t1n (And.intro t2n t3n)))))
            go_wp2
            go_quiet (fail)
            obtain ⟨q1', q2', q3', q4', q5', q6'⟩ := HQ.out
            try simp only [zs, zt, z5, z6, z8, q1', q2', q3', q4', q5', q6', Bool.or_false, Bool.false_or, Bool.or_self]
            go_wp2
            go_roundw
            case rel => exact ⟨j + 1, by omega, by rw [← HT1.out], by go_num, HB6.out _⟩
            case measure => simp [intOf]; omega
        · obtain rfl : j = S := by omega
          rw [HTh.out]
          have hEE : ((w5.heap.size : Int) == (w5.heap.size : Int)) = true := by simp
          have HB5 := hid hB5
          clear hB5 hEE
          go_wp2_with fail
          refine (known10_true _).mono ?_
          rintro e w8 ⟨rfl, B8⟩
          have BB4 := hid (below_then (below_then (below_then BB.out HB.out) HB5.out) B8)
          clear B8 BB HB HB5
          go_wp2
          go_ret
          exact ⟨rfl, BB4.out⟩
theorem law_RatematchCovers (k f limit rv e : Int) (w0 : (Lit.int .i64 k).wf = true) (w1 : (Lit.int .i64 f).wf = true) (w2 : (Lit.int .i64 limit).wf = true) (w3 : (Lit.int .i64 rv).wf = true) (w4 : (Lit.int .i64 e).wf = true) (w : World) :
    Calls Try.prog 6 #[.int .i64 k, .int .i64 f, .int .i64 limit, .int .i64 rv, .int .i64 e] w fun e w' => e = .returned (.bool true) ∧ Below w.heap.size w w' := by
  clear w0 w1 w2 w3 w4
  by_cases h1 : 20000 < e
  · exact covers_far k f limit rv e h1 w
  by_cases h2 : (Rm.posR k f limit rv e).2 = 0
  · have h3 : 0 ≤ e := by
      rcases Int.lt_or_le e 0 with h | h
      · rw [Rm.posR, if_neg (by omega)] at h2; simp at h2
      · exact h
    obtain ⟨e, rfl⟩ := Int.eq_ofNat_of_zero_le h3
    rcases Nat.eq_zero_or_pos e with h0 | h0
    · subst h0
      exact covers_zero k f limit rv h2 w
    · exact covers_ok k f limit rv e h0 (by omega) h2 w
  · exact covers_no k f limit rv e (by omega) h2 w
end Go.Proofs.Ytloldjmibjkkkaa

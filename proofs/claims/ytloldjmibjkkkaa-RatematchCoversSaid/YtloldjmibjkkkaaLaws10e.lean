/- userplanelaw10: RatematchFollows. -/
import Derived.Test.YtloldjmibjkkkaaLaws10b
import Derived.Test.YtloldjmibjkkkaaCov9b
namespace Go.Proofs.Ytloldjmibjkkkaa
open Go.RowKit Go.Shelf
set_option linter.unusedVariables false
/-- Positions; the slice is its own. -/
theorem rmPosO_any (k f limit rv n : Int) (w : World) :
    Calls Try.prog 19 #[.int .i64 k, .int .i64 f, .int .i64 limit, .int .i64 rv, .int .i64 n] w fun e w' => (∃ v', e = .returned (.tuple #[v', .int .i64 (Rm.posR k f limit rv n).2]) ∧ OwnL w' w.heap.size 3 v' ((Rm.posR k f limit rv n).1.map (Value.int .i64)) ∧ ((Rm.posR k f limit rv n).1 = [] → v' = .slice none 0 0)) ∧ Below w.heap.size w w' := by
  unfold Rm.posR
  split
  · rename_i h
    obtain ⟨hv, hr0, hr3, hn0, hn⟩ := h
    obtain ⟨h1, h2, h3, h4, h5⟩ := Rm.valid_of hv
    obtain ⟨k, rfl⟩ := Int.eq_ofNat_of_zero_le (show 0 ≤ k by omega)
    obtain ⟨f, rfl⟩ := Int.eq_ofNat_of_zero_le h3
    obtain ⟨rv, rfl⟩ := Int.eq_ofNat_of_zero_le hr0
    obtain ⟨n, rfl⟩ := Int.eq_ofNat_of_zero_le hn0
    simp only [Int.toNat_natCast]
    have hlen : (Rm.buf k f (Rm.rows k) (Rm.size k limit)).length = Rm.size k limit := by
      refine Rm.buf_len ?_
      unfold Rm.size; omega
    by_cases hz : (n : Int) = 0
    · rw [if_pos hz]
      refine (rmPos_zero k f rv n limit (by omega) (by omega) (by omega) h5 (by omega) (by omega) _ _ _ rfl rfl rfl (by omega) trivial w).mono ?_
      rintro e w' ⟨rfl, B⟩
      exact ⟨⟨_, rfl, OwnL.nil _ _ _, fun _ => rfl⟩, B⟩
    · rw [if_neg hz]
      by_cases hc : Rm.cnt (Rm.buf k f (Rm.rows k) (Rm.size k limit)) (Rm.size k limit) = 0
      · rw [if_pos hc]
        refine (rmPos_none k f rv n limit (by omega) (by omega) (by omega) h5 (by omega) (by omega) _ _ _ rfl rfl rfl (by omega) (by rw [hlen]; exact hc) w).mono ?_
        rintro e w' ⟨rfl, B⟩
        exact ⟨⟨_, rfl, OwnL.nil _ _ _, fun _ => rfl⟩, B⟩
      · rw [if_neg hc]
        have hne : Rm.cnt (Rm.buf k f (Rm.rows k) (Rm.size k limit)) (Rm.buf k f (Rm.rows k) (Rm.size k limit)).length ≠ 0 := by rw [hlen]; exact hc
        refine (rmPos_ok k f rv n limit (by omega) (by omega) (by omega) h5 (by omega) (by omega) (by omega) _ _ _ _ rfl rfl rfl rfl hne w).mono ?_
        rintro e w' ⟨⟨v', rfl, O⟩, B⟩
        refine ⟨⟨_, rfl, O, fun h0 => ?_⟩, B⟩
        have := Rm.posL_len (i := Rm.start (Rm.rows k) (Rm.size k limit) rv) (e := n) (Rm.cnt_pos hne)
        dsimp only at h0
        rw [h0] at this
        simp at this; omega
  · rename_i h
    refine (rmPos_err k f limit rv n h w).mono ?_
    rintro e w' ⟨rfl, B⟩
    exact ⟨⟨_, rfl, OwnL.nil _ _ _, fun _ => rfl⟩, B⟩
namespace Rm
/-- A selection that stands: what is there to say of it. -/
theorem posR_stand {k f limit rv e : Int} (h : (posR k f limit rv e).2 = 0) : ∃ (K F V E S st : Nat) (L : List Int), k = (K : Int) ∧ f = (F : Int) ∧ rv = (V : Int) ∧ e = (E : Int) ∧ 40 ≤ K ∧ K ≤ 6144 ∧ F < K ∧ 1 ≤ limit ∧ V ≤ 3 ∧ E ≤ 131072 ∧ valid k f limit = true ∧
    S = size K limit ∧ L = buf K F (rows K) S ∧ L.length = S ∧ 1 ≤ S ∧ S ≤ 20000 ∧ st < S ∧ bufR k f limit = (L, 0) ∧ usableR k f limit = (cnt L S, 0) ∧ (E ≠ 0 → cnt L L.length ≠ 0) ∧ (L.filter us).Nodup ∧
    ∀ m : Nat, (m : Int) ≤ e → posR k f limit rv m = (posL L st m, 0) := by
  unfold posR at h
  split at h
  · rename_i hh
    obtain ⟨hv, hr0, hr3, hn0, hn⟩ := hh
    obtain ⟨h1, h2, h3, h4, h5⟩ := valid_of hv
    obtain ⟨k, rfl⟩ := Int.eq_ofNat_of_zero_le (show 0 ≤ k by omega)
    obtain ⟨f, rfl⟩ := Int.eq_ofNat_of_zero_le h3
    obtain ⟨rv, rfl⟩ := Int.eq_ofNat_of_zero_le hr0
    obtain ⟨e, rfl⟩ := Int.eq_ofNat_of_zero_le hn0
    have hsz := size_bd (k := k) h5 (by omega)
    have hlen : (buf k f (rows k) (size k limit)).length = size k limit := buf_len hsz.2
    have hrows := rows_bd (k := k) (by omega) (by omega)
    have hne : e ≠ 0 → cnt (buf k f (rows k) (size k limit)) (size k limit) ≠ 0 := by
      intro he hc
      rw [if_neg (by omega)] at h
      simp only [Int.toNat_natCast] at h
      rw [if_pos hc] at h
      simp at h
    refine ⟨k, f, rv, e, size k limit, start (rows k) (size k limit) rv, buf k f (rows k) (size k limit), rfl, rfl, rfl, rfl, by omega, by omega, by omega, h5, by omega, by omega, hv, rfl, rfl, hlen, hsz.1, size_le (by omega), start_lt hsz.1, ?_, ?_, ?_, buf_nodup (by omega) hsz.2, ?_⟩
    · rw [bufR, if_pos hv]; rfl
    · rw [usableR, if_pos hv]; rfl
    · rw [hlen]; exact hne
    · intro m hm
      unfold posR
      rw [if_pos ⟨hv, hr0, hr3, by omega, by omega⟩]
      simp only [Int.toNat_natCast]
      by_cases hm0 : (m : Int) = 0
      · obtain rfl : m = 0 := by omega
        simp [posL]
      · rw [if_neg hm0, if_neg (hne (by omega))]
  · simp at h
end Rm
set_option maxRecDepth 100000 in
set_option maxHeartbeats 1000000 in
theorem follows_out (k f limit rv e m : Int) (h : 20000 < e ∨ m < 0 ∨ e < m) (w : World) :
    Calls Try.prog 7 #[.int .i64 k, .int .i64 f, .int .i64 limit, .int .i64 rv, .int .i64 e, .int .i64 m] w fun e w' => e = .returned (.bool true) ∧ Below w.heap.size w w' := by
  by_cases h1 : 20000 < e
  · clear h
    go_enter Try.func7, Try.ntmps7
    go_wp2_with fail
    refine (known10_true _).mono ?_
    rintro e w1 ⟨rfl, B1⟩
    go_wp2
    go_ret
    exact ⟨rfl, B1⟩
  by_cases h2 : m < 0
  · clear h
    go_enter Try.func7, Try.ntmps7
    go_wp2_with fail
    refine (known10_true _).mono ?_
    rintro e w1 ⟨rfl, B1⟩
    go_wp2
    go_ret
    exact ⟨rfl, B1⟩
  have h3 : e < m := by omega
  clear h
  go_enter Try.func7, Try.ntmps7
  go_wp2_with fail
  refine (known10_true _).mono ?_
  rintro e w1 ⟨rfl, B1⟩
  go_wp2
  go_ret
  exact ⟨rfl, B1⟩
set_option maxRecDepth 100000 in
set_option maxHeartbeats 1000000 in
theorem follows_no (k f limit rv e m : Int) (h1 : e ≤ 20000) (h2 : 0 ≤ m) (h3 : m ≤ e) (h : (Rm.posR k f limit rv e).2 ≠ 0) (w : World) :
    Calls Try.prog 7 #[.int .i64 k, .int .i64 f, .int .i64 limit, .int .i64 rv, .int .i64 e, .int .i64 m] w fun e w' => e = .returned (.bool true) ∧ Below w.heap.size w w' := by
  have C1 := hid (rmPos_any k f limit rv e)
  have C2 := hid (rmPos_any k f limit rv m)
  have C3 := hid (rmUsable_any k f limit)
  generalize Rm.posR k f limit rv e = r1 at *
  generalize Rm.posR k f limit rv m = r2 at *
  obtain ⟨A, n1⟩ := r1
  obtain ⟨B, n2⟩ := r2
  have hd : (n1 != 0) = true := by rw [bne_iff_ne]; exact h
  have hd2 : (n1 == 0) = false := by rw [beq_eq_false_iff_ne]; exact h
  have hd3 : ¬ n1 = 0 := h
  clear h
  dsimp only at C1 C2
  go_enter Try.func7, Try.ntmps7
  go_wp2_with fail
  refine (C1.out _).mono ?_
  rintro e w1 ⟨⟨v1, rfl, V1⟩, B1⟩
  clear V1
  go_wp2_with fail
  refine (C2.out _).mono ?_
  rintro e w2 ⟨⟨v2, rfl, V2⟩, B2⟩
  clear V2
  go_wp2_with fail
  refine (C3.out _).mono ?_
  rintro e w3 ⟨rfl, B3⟩
  go_wp2_with fail
  refine (known10_true _).mono ?_
  rintro e w4 ⟨rfl, B4⟩
  go_wp2
  go_ret
  exact ⟨rfl, below_then (below_then (below_then B1 B2) B3) B4⟩
set_option maxRecDepth 100000 in
set_option maxHeartbeats 1000000 in
theorem follows_zero (k f limit rv : Int) (h : (Rm.posR k f limit rv 0).2 = 0) (w : World) :
    Calls Try.prog 7 #[.int .i64 k, .int .i64 f, .int .i64 limit, .int .i64 rv, .int .i64 0, .int .i64 0] w fun e w' => e = .returned (.bool true) ∧ Below w.heap.size w w' := by
  obtain ⟨K, F, V, E, S, st, L, rfl, rfl, rfl, hE, k1, k2, k3, k4, k5, k6, hv, hS, hL, hl, s1, s2, s3, hbuf, hus, hne, hN, hm⟩ := Rm.posR_stand h
  have hm0 := hm 0 (by omega)
  have C1 := hid (show ∀ w, Calls Try.prog 19 #[.int .i64 K, .int .i64 F, .int .i64 limit, .int .i64 V, .int .i64 0] w fun e w' => e = .returned (.tuple #[.slice none 0 0, .int .i64 0]) ∧ Below w.heap.size w w' from fun w => by
    have := rmPosO_any K F limit V ((0 : Nat) : Int) w
    rw [hm0] at this
    refine this.mono ?_
    rintro e w' ⟨⟨v, rfl, _, h2⟩, B⟩
    rw [h2 (by simp [Rm.posL])]
    exact ⟨rfl, B⟩)
  have C3 := hid (rmUsable_any K F limit)
  rw [hus] at C3
  generalize Rm.cnt L S = N at *
  clear hm0 hm hN hne hus hbuf hv hS hL hl s1 s2 s3 k1 k2 k3 k4 k5 k6 hE h
  have hnn : (0 : Int) ≤ (N : Int) := by omega
  go_enter Try.func7, Try.ntmps7
  go_wp2_with fail
  refine (C1.out _).mono ?_
  rintro e w1 ⟨rfl, B1⟩
  go_wp2_with fail
  refine (C1.out _).mono ?_
  rintro e w2 ⟨rfl, B2⟩
  go_wp2_with fail
  refine (C3.out _).mono ?_
  rintro e w3 ⟨rfl, B3⟩
  go_wp2_with fail
  refine (same_any _ _ _ [] [] (Vw.nil _ _ _) (Vw.nil _ _ _) (by simp) (by simp)).mono ?_
  rintro e w5 ⟨rfl, m5, rfl⟩
  rw [decide_eq_true rfl]
  have BB := hid (below_then (below_then (below_then B1 B2) B3) (below_drewN _ m5))
  clear B1 B2 B3
  go_wp2
  refine wp_loop_rounds 1 ?_
  rw [rounds_succ]
  go_wp2_with fail
  refine (known10_true _).mono ?_
  rintro e w4 ⟨rfl, B4⟩
  have BB4 := hid (below_then BB.out B4)
  clear B4
  go_wp2
  go_ret
  exact ⟨rfl, BB4.out⟩
set_option maxRecDepth 100000 in
set_option maxHeartbeats 1000000 in
theorem follows_ok (k f limit rv : Int) (E M : Nat) (hE0 : 1 ≤ E) (hE1 : E ≤ 20000) (hM : M ≤ E) (h : (Rm.posR k f limit rv E).2 = 0) (w : World) :
    Calls Try.prog 7 #[.int .i64 k, .int .i64 f, .int .i64 limit, .int .i64 rv, .int .i64 E, .int .i64 M] w fun e w' => e = .returned (.bool true) ∧ Below w.heap.size w w' := by
  obtain ⟨K, F, V, E', S, st, L, rfl, rfl, rfl, hE, k1, k2, k3, k4, k5, k6, hv, hS, hL, hl, s1, s2, s3, hbuf, hus, hne, hN, hm⟩ := Rm.posR_stand h
  obtain rfl : E = E' := by omega
  have hu := Rm.cnt_pos (hne (by omega))
  have hX := hid (Rm.posL_len (i := st) (e := E) hu)
  have HA := hid (show ∀ j, Rm.cnt L S ≤ j → j < E → (Rm.posL L st E).getD j 0 = (Rm.posL L st E).getD (j - Rm.cnt L S) 0 from fun j h1 h2 => by
    have := Rm.posL_again (i := st) (e := E) (j := j) hu (by omega) (by rw [hl]; exact h1) h2
    rwa [hl] at this)
  have C1 := hid (show ∀ w, Calls Try.prog 19 #[.int .i64 K, .int .i64 F, .int .i64 limit, .int .i64 V, .int .i64 E] w fun e w' => (∃ v, e = .returned (.tuple #[v, .int .i64 0]) ∧ OwnL w' w.heap.size 3 v ((Rm.posL L st E).map (Value.int .i64))) ∧ Below w.heap.size w w' from fun w => by
    have := rmPosO_any K F limit V E w
    rw [hm E (by omega)] at this
    exact this.mono fun e w' ⟨⟨v, h1, h2, _⟩, B⟩ => ⟨⟨v, h1, h2⟩, B⟩)
  have C2 := hid (show ∀ w, Calls Try.prog 19 #[.int .i64 K, .int .i64 F, .int .i64 limit, .int .i64 V, .int .i64 M] w fun e w' => (∃ v, e = .returned (.tuple #[v, .int .i64 0]) ∧ Vw w' v (((Rm.posL L st E).take M).map (Value.int .i64))) ∧ Below w.heap.size w w' from fun w => by
    have := rmPosO_any K F limit V M w
    rw [hm M (by omega), Rm.posL_take hu hM] at this
    exact this.mono fun e w' ⟨⟨v, h1, h2, _⟩, B⟩ => ⟨⟨v, h1, h2.vw⟩, B⟩)
  have C3 := hid (rmUsable_any K F limit)
  rw [hus] at C3
  generalize Rm.cnt L S = N at *
  generalize Rm.posL L st E = X at *
  have e1 : (0 : Int) ≤ (M : Int) := by omega
  have e2 : (M : Int) ≤ (E : Int) := by omega
  have e3 : (E : Int) ≤ 20000 := by omega
  have hEE : ((E : Int) == (E : Int)) = true := by simp
  clear hm hN hne hus hbuf hv hS hL hl s1 s2 s3 k1 k2 k3 k4 k5 k6 hE h hu hEE
  go_enter Try.func7, Try.ntmps7
  go_wp2_with fail
  refine (C1.out _).mono ?_
  rintro e w1 ⟨⟨v1, rfl, o1⟩, B1⟩
  obtain ⟨g, cap, rfl⟩ := o1.shape E (by rw [List.length_map, hX.out]) (by omega)
  have hcap := o1.cap
  have hgl := (o1.block (g := g) rfl).2
  have ho1 := hid o1
  clear o1
  go_wp2_with fail
  refine (C2.out _).mono ?_
  rintro e w2 ⟨⟨v2, rfl, V2⟩, B2⟩
  have HV2 := hid V2
  clear V2
  go_wp2_with fail
  refine (C3.out _).mono ?_
  rintro e w3 ⟨rfl, B3⟩
  have h13 := B2.trans (B3.mono B2.size)
  have HC := hid (show ∀ j, j < E → w3.cell? ⟨g, j, none⟩ = some (.int .i64 (X.getD j 0)) from fun j hj => by
    have hj' : j < X.length := by rw [hX.out]; exact hj
    rw [h13.cell (p := ⟨g, j, none⟩) hgl, ho1.out.at j (by simpa using hj')]
    simp [List.getD, hj'])
  have hgl3 : g < w3.heap.size := Nat.lt_of_lt_of_le hgl h13.size
  have HV1 := hid ((ho1.out.vw.take M cap (by rw [List.length_map, hX.out]; exact hM)).below h13 (Nat.le_refl _))
  have HV3 := hid (HV2.out.below B3 (Nat.le_refl _))
  have BB := hid (below_then (below_then B1 B2) B3)
  have hMc : (M : Int) ≤ (cap : Int) := by omega
  have hMc2 : M ≤ cap := by omega
  rw [← List.map_take] at HV1
  clear C1 C2 C3 B1 B2 B3 ho1 HV2 h13
  go_wp2_with fail
  refine (same_any _ _ _ (X.take M) (X.take M) HV3.out HV1.out (by rw [List.length_take, hX.out]; omega) (by rw [List.length_take, hX.out]; omega)).mono ?_
  rintro e w5 ⟨rfl, m5, rfl⟩
  rw [decide_eq_true rfl]
  obtain ⟨w5, hw5⟩ : ∃ w5, w5 = w3.drewN m5 := ⟨_, rfl⟩
  rw [← hw5]
  have B35 := hid (show Below w3.heap.size w3 w5 by rw [hw5]; exact below_drewN _ _)
  clear hw5 HV1 HV3
  go_wp2
  go_loopw [19] (fun i wr => ∃ j : Nat, N ≤ j ∧ j ≤ N + E ∧ i = .int .i64 j ∧ Below w3.heap.size w3 wr) (fun i _ => N + E - (intOf i).toNat)
  case atStart => exact ⟨N, Nat.le_refl _, by omega, rfl, B35.out⟩
  case round =>
    obtain ⟨j, hj1, hj2, rfl, hB⟩ := hrel
    by_cases hlt : j < E
    · have hx := (hB.cell (p := ⟨g, j, none⟩) hgl3).trans (HC.out j hlt)
      have hy := (hB.cell (p := ⟨g, j - N, none⟩) hgl3).trans (HC.out (j - N) (by omega))
      rw [HA.out j hj1 hlt] at hx
      generalize X.getD (j - N) 0 = x at hx hy
      obtain ⟨q, hq⟩ : ∃ q, q = j - N := ⟨_, rfl⟩
      rw [← hq] at hy
      have hq1 : (j : Int) - (N : Int) = (q : Int) := by omega
      have hw1 : IntKind.i64.wrap ((j : Int) - (N : Int)) = (q : Int) := by rw [hq1]; exact IntWalk.i64_in _ (by omega)
      have hqE : q < E := by omega
      have hbne : (x != x) = false := by simp
      have HB := hid hB
      clear hB hq
      have hx' : wr.drew.cell? ⟨g, j, none⟩ = some (.int .i64 x) := hx
      have hy' : wr.drew.cell? ⟨g, q, none⟩ = some (.int .i64 x) := hy
      go_wp2
      go_region
      go_wp2
      go_roundw
      case rel => exact ⟨j + 1, by omega, by omega, by go_num, HB.out.trans ((Fr.drew (fun _ => False) wr).below HB.out.size (fun _ _ h => h))⟩
      case measure => simp [intOf]; omega
    · have HB := hid hB
      clear hB
      go_wp2_with fail
      refine (known10_true _).mono ?_
      rintro e w4 ⟨rfl, B4⟩
      have BB4 := hid (below_then (below_then BB.out HB.out) B4)
      clear B4 BB HB
      go_wp2
      go_ret
      exact ⟨rfl, BB4.out⟩
theorem law_RatematchFollows (k f limit rv e m : Int) (w0 : (Lit.int .i64 k).wf = true) (w1 : (Lit.int .i64 f).wf = true) (w2 : (Lit.int .i64 limit).wf = true) (w3 : (Lit.int .i64 rv).wf = true) (w4 : (Lit.int .i64 e).wf = true) (w5 : (Lit.int .i64 m).wf = true) (w : World) :
    Calls Try.prog 7 #[.int .i64 k, .int .i64 f, .int .i64 limit, .int .i64 rv, .int .i64 e, .int .i64 m] w fun e w' => e = .returned (.bool true) ∧ Below w.heap.size w w' := by
  clear w0 w1 w2 w3 w4 w5
  by_cases h1 : 20000 < e ∨ m < 0 ∨ e < m
  · exact follows_out k f limit rv e m h1 w
  by_cases h2 : (Rm.posR k f limit rv e).2 = 0
  · obtain ⟨e, rfl⟩ := Int.eq_ofNat_of_zero_le (show 0 ≤ e by omega)
    obtain ⟨m, rfl⟩ := Int.eq_ofNat_of_zero_le (show 0 ≤ m by omega)
    rcases Nat.eq_zero_or_pos e with h0 | h0
    · subst h0
      obtain rfl : m = 0 := by omega
      exact follows_zero k f limit rv h2 w
    · exact follows_ok k f limit rv e m h0 (by omega) (by omega) h2 w
  · exact follows_no k f limit rv e m (by omega) (by omega) (by omega) h2 w
end Go.Proofs.Ytloldjmibjkkkaa

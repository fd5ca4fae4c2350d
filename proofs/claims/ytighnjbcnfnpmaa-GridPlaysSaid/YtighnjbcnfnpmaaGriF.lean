/- userplaneref17: References, Data. -/
import Derived.Test.YtighnjbcnfnpmaaGriE
namespace Go.Proofs.Ytighnjbcnfnpmaa
open Go.RowKit Go.Shelf
set_option linter.unusedVariables false
attribute [local go_sem ↓] Go.wp_at_zero Go.wp_at_succ
set_option maxHeartbeats 2000000 in
theorem refReferences17 (b t l : Int) (w : World) : Calls Try.prog 19 #[CV b t l] w fun e w' => (∃ v', e = .returned v' ∧ OwnL w' w.heap.size 3 v' (((if Gr.vld b t l = true then Gr.refL b t l else []) : List Int).map (Value.int .i64))) ∧ Below w.heap.size w w' := by
  have HVd := hid (refValid17 b t l)
  cases hv : Gr.vld b t l with
  | false =>
    rw [hv] at HVd
    rw [if_neg (by simp)]
    clear hv
    go_enter Try.func19, Try.ntmps19
    go_wp2_with fail
    refine (HVd.out _).mono ?_
    rintro r w1 ⟨rfl, B1⟩
    go_wp2
    go_ret
    exact ⟨⟨_, rfl, OwnL.nil _ _ _⟩, up_alloc B1⟩
  | true =>
    rw [hv] at HVd
    rw [if_pos rfl]
    have hc := Gr.vld_iff.1 hv
    have b0 := hc.b0
    have b1 := hc.b1
    obtain ⟨n, hn⟩ : ∃ n : Nat, (n : Int) = 168 * b := ⟨(168 * b).toNat, by omega⟩
    have HR := hid (show Gr.refL b t l = Gr.sel (fun i => Gr.kd b t l i == 1) n by unfold Gr.refL; rw [← hn]; rfl)
    rw [HR.out]
    have HK := hid (fun (i : Nat) (hi : i < n) w => refKind17 b t l hc i (by omega) w)
    have hnb : n ≤ 100000 := by omega
    have Hn := hid hn
    have h168 : IntKind.i64.wrap (168 * b) = (n : Int) := by rw [hn]; exact IntWalk.i64_in _ (by omega)
    have h168' : 168 * b = (n : Int) := hn.symm
    clear hv hc hn
    go_enter Try.func19, Try.ntmps19
    go_wp2_with fail
    refine (HVd.out _).mono ?_
    rintro r w1 ⟨rfl, B1⟩
    have HP := hid (show Blk w1 w.heap.size 23 #[.int .i64 b, .int .i64 t, .int .i64 l] from Blk.below (Blk.new w _ _) B1 (by simp))
    have HB1 := hid (up_alloc B1)
    clear B1
    go_wp2
    go_loopw [3, 4] (fun o i wr => ∃ k : Nat, k ≤ n ∧ i = .int .i64 k ∧ OwnL wr w1.heap.size 3 o ((Gr.sel (fun i => Gr.kd b t l i == 1) k).map (Value.int .i64)) ∧ Below w1.heap.size w1 wr) (fun _ i _ => n - (intOf i).toNat)
    case atStart => exact ⟨0, Nat.zero_le _, rfl, OwnL.nil _ _ _, Below.refl _ _⟩
    case round =>
      obtain ⟨k, hk, rfl, hown, hB⟩ := hrel
      have c0 : wr.cell? ⟨w.heap.size, 0, none⟩ = some (.int .i64 b) := (HP.out.below hB HP.out.lt).cell 0
      have c1 : wr.cell? ⟨w.heap.size, 1, none⟩ = some (.int .i64 t) := (HP.out.below hB HP.out.lt).cell 1
      have c2 : wr.cell? ⟨w.heap.size, 2, none⟩ = some (.int .i64 l) := (HP.out.below hB HP.out.lt).cell 2
      by_cases hlt : k < n
      · have HKk := hid (HK.out k hlt)
        have HY := hid (@Gr.sel_yes (fun i => Gr.kd b t l i == 1) k)
        have HNo := hid (@Gr.sel_no (fun i => Gr.kd b t l i == 1) k)
        have HL := hid (Gr.sel_len (fun i => Gr.kd b t l i == 1) k)
        have HN := hid (show ((Gr.sel (fun i => Gr.kd b t l i == 1) k).map (Value.int .i64)).length = (Gr.sel (fun i => Gr.kd b t l i == 1) k).length by simp)
        have HO := hid hown
        have HBr := hid hB
        clear hown hB
        cases hpk : (Gr.kd b t l (k : Nat) == 1) with
        | true =>
          have HPK := hid hpk
          generalize Gr.kd b t l (k : Nat) = z at *
          go_wp2_with fail
          refine (HKk.out _).mono ?_
          rintro r w2 ⟨rfl, B2⟩
          have hown2 := HO.out.fr (Fr.of_below B2) (fun g' e => by have := (HO.out.block e).2; omega)
          have HB2 := hid (below_then HBr.out B2)
          have hsz := HB2.out.size
          have hlen := HL.out
          clear B2 c0 c1 c2
          go_wp2_with (at_builtin; refine wpList_append_one rfl gelem (.tmp 20) (.tmp 22) rfl w1.heap.size _ _ _ HN.out rfl hown2 _ rfl rfl (by omega) (by omega) hsz ?_; intro g1 cap1 w3 hown3 hf)
          have HB4 := hid (HB2.out.trans (hf.below hsz (fun i hi e => by have := (hown2.block e).1; omega)))
          have HO3 := hid hown3
          clear hown2 hf hown3 hpk
          go_wp2
          go_roundw
          case rel => exact ⟨k + 1, by omega, by go_num, by rw [HY.out HPK.out, List.map_append]; exact HO3.out, HB4.out⟩
          case measure => simp [intOf]; omega
        | false =>
          have HPK := hid hpk
          generalize Gr.kd b t l (k : Nat) = z at *
          go_wp2_with fail
          refine (HKk.out _).mono ?_
          rintro r w2 ⟨rfl, B2⟩
          have HO2 := hid (HO.out.fr (Fr.of_below B2) (fun g' e => by have := (HO.out.block e).2; omega))
          have HB2 := hid (below_then HBr.out B2)
          clear B2 c0 c1 c2
          go_wp2
          go_roundw
          case rel => exact ⟨k + 1, by omega, by go_num, by rw [HNo.out HPK.out]; exact HO2.out, HB2.out⟩
          case measure => simp [intOf]; omega
      · obtain rfl : k = n := by omega
        have HO := hid (hown.base_mono HB1.out.size)
        have HBr := hid (below_then HB1.out hB)
        clear hown hB
        go_wp2
        go_ret
        exact ⟨⟨_, rfl, HO.out⟩, HBr.out⟩
set_option maxHeartbeats 4000000 in
theorem refData17_err (b t l first blocks : Int) (h : Gr.datOk b t l first blocks = false) (w : World) :
    Calls Try.prog 17 #[CV b t l, .int .i64 first, .int .i64 blocks] w fun e w' => e = .returned (.tuple #[.slice none 0 0, .int .i64 2]) ∧ Below w.heap.size w w' := by
  have HVd := hid (refValid17 b t l)
  have cs : Gr.vld b t l = false ∨ (Gr.vld b t l = true ∧ decide (first < 0) = true) ∨ (Gr.vld b t l = true ∧ decide (first < 0) = false ∧ decide (blocks < 1) = true) ∨ (Gr.vld b t l = true ∧ decide (first < 0) = false ∧ decide (blocks < 1) = false ∧ decide (b < first) = true) ∨
      (Gr.vld b t l = true ∧ decide (first < 0) = false ∧ decide (blocks < 1) = false ∧ decide (b < first) = false ∧ decide (b - first < blocks) = true ∧ 0 ≤ first ∧ first ≤ b ∧ b ≤ 100) := by
    cases hv : Gr.vld b t l
    · left; rfl
    · have hc := Gr.vld_iff.1 hv
      have b1 := hc.b1
      by_cases h1 : first < 0
      · right; left; exact ⟨rfl, decide_eq_true h1⟩
      · by_cases h2 : blocks < 1
        · right; right; left; exact ⟨rfl, decide_eq_false h1, decide_eq_true h2⟩
        · by_cases h3 : b < first
          · right; right; right; left; exact ⟨rfl, decide_eq_false h1, decide_eq_false h2, decide_eq_true h3⟩
          · right; right; right; right
            refine ⟨rfl, decide_eq_false h1, decide_eq_false h2, decide_eq_false h3, ?_, by omega, by omega, b1⟩
            simp [Gr.datOk, hv] at h
            exact decide_eq_true (h (by omega) (by omega) (by omega))
  clear h
  obtain ⟨vv, hvv⟩ : ∃ vv, vv = Gr.vld b t l := ⟨_, rfl⟩
  rw [← hvv] at cs HVd
  clear hvv
  rcases cs with rfl | ⟨rfl, d1⟩ | ⟨rfl, d1, d2⟩ | ⟨rfl, d1, d2, d3⟩ | ⟨rfl, d1, d2, d3, d4, f0, f1, b1⟩
  all_goals
    go_enter Try.func17, Try.ntmps17
    go_wp2_with fail
    refine (HVd.out _).mono ?_
    rintro r w1 ⟨rfl, B1⟩
    have HP := hid (show Blk w1 w.heap.size 23 #[.int .i64 b, .int .i64 t, .int .i64 l] from Blk.below (Blk.new w _ _) B1 (by simp))
    have c0 : w1.cell? ⟨w.heap.size, 0, none⟩ = some (.int .i64 b) := HP.out.cell 0
    go_wp2
    go_ret2
    exact ⟨rfl, up_alloc B1⟩
set_option maxHeartbeats 4000000 in
set_option maxRecDepth 100000 in
theorem refData17_ok (b t l first blocks : Int) (h : Gr.datOk b t l first blocks = true) (w : World) :
    Calls Try.prog 17 #[CV b t l, .int .i64 first, .int .i64 blocks] w fun e w' => (∃ v', e = .returned (.tuple #[v', .int .i64 0]) ∧ OwnL w' w.heap.size 3 v' ((Gr.sel (Gr.datP b t l first blocks) (168 * b).toNat).map (Value.int .i64))) ∧ Below w.heap.size w w' := by
  simp only [Gr.datOk, Bool.and_eq_true, decide_eq_true_eq] at h
  obtain ⟨⟨⟨⟨hv, f0⟩, g0⟩, f1⟩, g1⟩ := h
  have hc := Gr.vld_iff.1 hv
  have b0 := hc.b0
  have b1 := hc.b1
  have HVd := hid (refValid17 b t l)
  rw [hv] at HVd
  obtain ⟨n, hn⟩ : ∃ n : Nat, (n : Int) = 168 * b := ⟨(168 * b).toNat, by omega⟩
  rw [show (168 * b).toNat = n by rw [← hn]; rfl]
  have HK := hid (fun (i : Nat) (hi : i < n) w => refKind17 b t l hc i (by omega) w)
  have hnb : n ≤ 100000 := by omega
  have h168' : 14 * (12 * b) = (n : Int) := by rw [hn]; omega
  have d1 : decide (first < 0) = false := decide_eq_false (by omega)
  have d2 : decide (blocks < 1) = false := decide_eq_false (by omega)
  have d3 : decide (b < first) = false := decide_eq_false (by omega)
  have d4 : decide (b - first < blocks) = false := decide_eq_false (by omega)
  have Hn := hid hn
  clear hv hc hn
  go_enter Try.func17, Try.ntmps17
  go_wp2_with fail
  refine (HVd.out _).mono ?_
  rintro r w1 ⟨rfl, B1⟩
  have HP := hid (show Blk w1 w.heap.size 23 #[.int .i64 b, .int .i64 t, .int .i64 l] from Blk.below (Blk.new w _ _) B1 (by simp))
  have HB1 := hid (up_alloc B1)
  have c0 : w1.cell? ⟨w.heap.size, 0, none⟩ = some (.int .i64 b) := HP.out.cell 0
  clear B1
  go_wp2
  clear d1 d2 d3 d4 c0
  go_loopw [9, 10] (fun o i wr => ∃ k : Nat, k ≤ n ∧ i = .int .i64 k ∧ OwnL wr w1.heap.size 3 o ((Gr.sel (Gr.datP b t l first blocks) k).map (Value.int .i64)) ∧ Below w1.heap.size w1 wr) (fun _ i _ => n - (intOf i).toNat)
  case atStart => exact ⟨0, Nat.zero_le _, rfl, OwnL.nil _ _ _, Below.refl _ _⟩
  case round =>
    obtain ⟨k, hk, rfl, hown, hB⟩ := hrel
    have c0 : wr.cell? ⟨w.heap.size, 0, none⟩ = some (.int .i64 b) := (HP.out.below hB HP.out.lt).cell 0
    have c1 : wr.cell? ⟨w.heap.size, 1, none⟩ = some (.int .i64 t) := (HP.out.below hB HP.out.lt).cell 1
    have c2 : wr.cell? ⟨w.heap.size, 2, none⟩ = some (.int .i64 l) := (HP.out.below hB HP.out.lt).cell 2
    by_cases hlt : k < n
    · have HKk := hid (HK.out k hlt)
      have HY := hid (@Gr.sel_yes (Gr.datP b t l first blocks) k)
      have HNo := hid (@Gr.sel_no (Gr.datP b t l first blocks) k)
      have HL := hid (Gr.sel_len (Gr.datP b t l first blocks) k)
      have HN := hid (show ((Gr.sel (Gr.datP b t l first blocks) k).map (Value.int .i64)).length = (Gr.sel (Gr.datP b t l first blocks) k).length by simp)
      have HE := hid (show Gr.datP b t l first blocks k = (decide (first ≤ (k : Int) % (12 * b) / 12) && decide ((k : Int) % (12 * b) / 12 < first + blocks) && (Gr.kd b t l k == 3)) from rfl)
      have HO := hid hown
      have HBr := hid hB
      have hi0 : (0 : Int) ≤ k := by omega
      have hk0 : 0 ≤ (k : Int) % (12 * b) := Int.emod_nonneg _ (by omega)
      have hk1 : (k : Int) % (12 * b) < 12 * b := Int.emod_lt_of_pos _ (by omega)
      have hkb : (k : Int) % (12 * b) ≤ 1200 := by omega
      have hq0 : 0 ≤ (k : Int) % (12 * b) / 12 := by omega
      have hq1 : (k : Int) % (12 * b) / 12 ≤ 100 := by omega
      have he1 : (k : Int).tmod (12 * b) = (k : Int) % (12 * b) := Int.tmod_eq_emod_of_nonneg hi0
      have hw : IntKind.i64.wrap (first + blocks) = first + blocks := IntWalk.i64_in _ (by omega)
      have hne : ¬ 12 * b = 0 := by omega
      have hne2 : ((12 * b : Int) == 0) = false := by rw [beq_eq_false_iff_ne]; omega
      have cs : (decide (first ≤ (k : Int) % (12 * b) / 12) = false) ∨ (decide (first ≤ (k : Int) % (12 * b) / 12) = true ∧ decide ((k : Int) % (12 * b) / 12 < first + blocks) = false) ∨ (decide (first ≤ (k : Int) % (12 * b) / 12) = true ∧ decide ((k : Int) % (12 * b) / 12 < first + blocks) = true) := by
        by_cases h1 : first ≤ (k : Int) % (12 * b) / 12
        · by_cases h2 : (k : Int) % (12 * b) / 12 < first + blocks
          · right; right; exact ⟨decide_eq_true h1, decide_eq_true h2⟩
          · right; left; exact ⟨decide_eq_true h1, decide_eq_false h2⟩
        · left; exact decide_eq_false h1
      clear hown hB hk1
      rcases cs with k1 | ⟨k1, k2⟩ | ⟨k1, k2⟩
      · have HPK := hid (show Gr.datP b t l first blocks k = false by rw [HE.out, k1]; rfl)
        clear HE
        go_wp2
        go_roundw
        case rel => exact ⟨k + 1, by omega, by go_num, by rw [HNo.out HPK.out]; exact HO.out, HBr.out⟩
        case measure => simp [intOf]; omega
      · have HPK := hid (show Gr.datP b t l first blocks k = false by rw [HE.out, k1, k2]; rfl)
        clear HE
        go_wp2
        go_roundw
        case rel => exact ⟨k + 1, by omega, by go_num, by rw [HNo.out HPK.out]; exact HO.out, HBr.out⟩
        case measure => simp [intOf]; omega
      · have HPK0 := hid (show Gr.datP b t l first blocks k = (Gr.kd b t l k == 3) by rw [HE.out, k1, k2]; rfl)
        clear HE
        cases hpk : (Gr.kd b t l (k : Nat) == 3) with
        | true =>
          have HPK := hid (HPK0.out.trans hpk)
          generalize Gr.kd b t l (k : Nat) = z at *
          go_wp2_with fail
          refine (HKk.out _).mono ?_
          rintro r w2 ⟨rfl, B2⟩
          have hown2 := HO.out.fr (Fr.of_below B2) (fun g' e => by have := (HO.out.block e).2; omega)
          have HB2 := hid (below_then HBr.out B2)
          have hsz := HB2.out.size
          have hlen := HL.out
          clear B2 c0 c1 c2
          go_wp2_with (at_builtin; refine wpList_append_one rfl gelem (.tmp 66) (.tmp 68) rfl w1.heap.size _ _ _ HN.out rfl hown2 _ rfl rfl (by omega) (by omega) hsz ?_; intro g2 cap1 w3 hown3 hf)
          have HB4 := hid (HB2.out.trans (hf.below hsz (fun i hi e => by have := (hown2.block e).1; omega)))
          have HO3 := hid hown3
          clear hown2 hf hown3 hpk
          go_wp2
          go_roundw
          case rel => exact ⟨k + 1, by omega, by go_num, by rw [HY.out HPK.out, List.map_append]; exact HO3.out, HB4.out⟩
          case measure => simp [intOf]; omega
        | false =>
          have HPK := hid (HPK0.out.trans hpk)
          generalize Gr.kd b t l (k : Nat) = z at *
          go_wp2_with fail
          refine (HKk.out _).mono ?_
          rintro r w2 ⟨rfl, B2⟩
          have HO2 := hid (HO.out.fr (Fr.of_below B2) (fun g' e => by have := (HO.out.block e).2; omega))
          have HB2 := hid (below_then HBr.out B2)
          clear B2 c0 c1 c2
          go_wp2
          go_roundw
          case rel => exact ⟨k + 1, by omega, by go_num, by rw [HNo.out HPK.out]; exact HO2.out, HB2.out⟩
          case measure => simp [intOf]; omega
    · obtain rfl : k = n := by omega
      have HO := hid (hown.base_mono HB1.out.size)
      have HBr := hid (below_then HB1.out hB)
      clear hown hB
      go_wp2
      go_ret2
      exact ⟨⟨_, rfl, HO.out⟩, HBr.out⟩
theorem refData17_any (b t l first blocks : Int) (w : World) :
    Calls Try.prog 17 #[CV b t l, .int .i64 first, .int .i64 blocks] w fun e w' => (∃ v', e = .returned (.tuple #[v', .int .i64 (Gr.datE b t l first blocks)]) ∧ VwA w' w.heap.size v' ((Gr.datL b t l first blocks).map (Value.int .i64))) ∧ Below w.heap.size w w' := by
  cases h : Gr.datOk b t l first blocks with
  | true =>
    rw [show Gr.datE b t l first blocks = 0 from if_pos h, show Gr.datL b t l first blocks = _ from if_pos h]
    exact (refData17_ok b t l first blocks h w).mono fun r w' ⟨⟨v', h1, h2⟩, h3⟩ => ⟨⟨v', h1, h2.vwA⟩, h3⟩
  | false =>
    rw [show Gr.datE b t l first blocks = 2 from if_neg (by simp [h]), show Gr.datL b t l first blocks = [] from if_neg (by simp [h])]
    exact (refData17_err b t l first blocks h w).mono fun r w' ⟨h1, h2⟩ => ⟨⟨_, h1, VwA.nil _ _ _⟩, h2⟩
end Go.Proofs.Ytighnjbcnfnpmaa

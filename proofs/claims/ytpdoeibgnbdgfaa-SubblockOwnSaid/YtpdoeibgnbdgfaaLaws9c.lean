/- userplanelaw09: SubblockInterleaves, SubblockBack, SubblockAgain: the walks. -/
import Derived.Test.YtpdoeibgnbdgfaaLaws9a
import Derived.Test.YtpdoeibgnbdgfaaInter
namespace Go.Proofs.Ytpdoeibgnbdgfaa
open Go.RowKit Go.Shelf
set_option linter.unusedVariables false

theorem ordF_ref {w : World} {base : Nat} {g n cap d R : Nat} {s : Int} (h : OwnL w base 3 (.slice (some ⟨g, 0, none⟩) n cap) ((Ord.outL d R s (32 * R)).map (Value.int .i64))) {k : Nat} (hk : k < 32 * R) : w.cell? ⟨g, k, none⟩ = some (.int .i64 (Ord.ordF d R s k)) := by
  rw [h.at k (by simp [Ord.outL_len, hk])]; simp [Ord.outL]

set_option maxHeartbeats 2000000 in
theorem law_SubblockInterleaves (w : World) (v : Value) (B : List Int) (s : Int) (hb : IntsIn .u8 w v B) (ws : (Lit.int .i64 s).wf = true) :
    Calls Try.prog 7 #[v, .int .i64 s] w fun e w' => e = .returned (.bool true) ∧ Below w.heap.size w w' := by
  clear ws
  obtain ⟨hv, hl, -⟩ := hb
  by_cases hbig : 1000 < B.length
  · obtain ⟨a, c, rfl, _⟩ := hv
    rw [List.length_map]
    have hgt : decide (1000 < (B.length : Int)) = true := by simp; omega
    go_enter Try.func7, Try.ntmps7
    go_wp2_with (go_at_call 14; refine (known_true _).mono ?_; rintro e w4 ⟨rfl, hB4⟩)
    go_ret
    exact ⟨rfl, hB4⟩
  by_cases h : (B.length : Int) < 1 ∨ 6148 < (B.length : Int) ∨ s < 0 ∨ 2 < s
  · have C0 := hid (fun w h => inter_err w v B s h hl (by omega))
    have C1 := hid (fun w => refOrder_err (B.length : Int) s h w)
    have HV := hid hv
    obtain ⟨a, c, rfl, _⟩ := hv
    rw [List.length_map] at C0 HV ⊢
    clear h
    go_enter Try.func7, Try.ntmps7
    go_wp2_with (first
      | (go_at_call 19; refine (C0.out _ HV.out).mono ?_; rintro e w1 ⟨rfl, hB1⟩)
      | (go_at_call 12; refine (C1.out _).mono ?_; rintro e w2 ⟨rfl, rfl⟩)
      | (go_at_call 14; refine (known_true _).mono ?_; rintro e w4 ⟨rfl, hB4⟩))
    go_ret
    exact ⟨rfl, below_then hB1 hB4⟩
  · obtain ⟨R, hR⟩ : ∃ R : Nat, R = (B.length + 31) / 32 := ⟨_, rfl⟩
    have hR1 : B.length ≤ 32 * R := by omega
    have hR2 : 32 * R < B.length + 32 := by omega
    have hd0 : 1 ≤ B.length := by omega
    have hd1 : B.length ≤ 6148 := by omega
    have C0 := hid (fun w h => inter_ok w v B R s h hd0 hd1 hR1 hR2 (by omega) (by omega))
    have C1 := hid (fun w => refOrder_ok B.length R s hd0 hd1 hR1 hR2 (by omega) (by omega) w)
    have HV := hid hv
    have hle : B.length ≤ 1000 := by omega
    rcases vw_split hv with ⟨a, c, rfl, rfl⟩ | ⟨b, off, c, rfl, hp0, hc⟩
    · simp at hd0
    have HC := hid hc
    have hbl : b < w.heap.size := World.block_lt_of_cell? w _ (hc 0 hp0)
    clear hc hv h hbig hR
    cases hok : Ord.okBits B with
    | false =>
      have HK := hid hok
      clear hok
      go_enter Try.func7, Try.ntmps7
      go_wp2_with (first
        | (go_at_call 19; refine (C0.out _ HV.out).mono ?_; rintro e w1 h1; obtain ⟨rfl, hB1⟩ := h1.bad HK.out)
        | (go_at_call 12; refine (C1.out _).mono ?_; rintro e w2 ⟨v2, rfl, hown2, hB2⟩; obtain ⟨g2, cap2, rfl⟩ := hown2.shape (32 * R) (by simp [Ord.outL_len]) (by omega))
        | (go_at_call 20; refine (valid_any _ _ B ((HV.out.below hB1 (Nat.le_refl _)).below hB2 (Nat.le_refl _)) (by omega)).mono ?_; rintro e w3 ⟨rfl, rfl⟩; rw [HK.out])
        | (go_at_call 14; refine (known_true _).mono ?_; rintro e w4 ⟨rfl, hB4⟩))
      go_ret
      exact ⟨rfl, below_then (below_then hB1 hB2) hB4⟩
    | true =>
      have HK := hid hok
      clear hok
      go_enter Try.func7, Try.ntmps7
      go_wp2_with fail
      refine (C0.out _ HV.out).mono ?_
      rintro e w1 (⟨h, -⟩ | ⟨-, ⟨v1, rfl, hown1⟩, hB1⟩)
      · rw [HK.out] at h; cases h
      obtain ⟨g1, cap1, rfl⟩ := hown1.shape (32 * R) (by simp [Ord.interL_len]) (by omega)
      have hne : ((32 * (R : Int)) != 32 * (R : Int)) = false := by simp
      go_wp2_with (first
        | (go_at_call 12; refine (C1.out _).mono ?_; rintro e w2 ⟨v2, rfl, hown2, hB2⟩; obtain ⟨g2, cap2, rfl⟩ := hown2.shape (32 * R) (by simp [Ord.outL_len]) (by omega))
        | (go_at_call 20; refine (valid_any _ _ B ((HV.out.below hB1 (Nat.le_refl _)).below hB2 (Nat.le_refl _)) (by omega)).mono ?_; rintro e w3 ⟨rfl, rfl⟩; rw [HK.out]))
      have HA := hid (show ∀ k, k < 32 * R → w2.cell? ⟨g2, k, none⟩ = some (.int .i64 (Ord.ordF B.length R s k)) from fun k hk => ordF_ref hown2 hk)
      have HI := hid (show ∀ k, k < 32 * R → w2.cell? ⟨g1, k, none⟩ = some (.int .u8 (if Ord.ordF B.length R s k < 0 then 2 else B.getD (Ord.ordF B.length R s k).toNat 0)) from fun k hk => by
        rw [hB2.cell (p := ⟨g1, k, none⟩) (hown1.block (g := g1) rfl).2, hown1.at k (by simp [Ord.interL_len, hk])]; simp [Ord.interL, Ord.interF])
      have HCb := hid (show ∀ i, i < B.length → w2.cell? ⟨b, off + i, none⟩ = some (.int .u8 (B.getD i 0)) from fun i hi =>
        (hB2.cell (p := ⟨b, off + i, none⟩) (Nat.lt_of_lt_of_le hbl hB1.size)).trans ((hB1.cell (p := ⟨b, off + i, none⟩) hbl).trans (HC.out i hi)))
      have hB := below_then hB1 hB2
      clear hown1 hown2 hB1 hB2 HC
      go_loopw [9] (fun i wr => ∃ k m : Nat, k ≤ 32 * R ∧ i = .int .i64 k ∧ wr = w2.drewN m) (fun i _ => 32 * R - (intOf i).toNat)
      case atStart => exact ⟨0, 0, Nat.zero_le _, rfl, rfl⟩
      case round =>
        obtain ⟨k, m, hk, rfl, rfl⟩ := hrel
        by_cases hlt : k < 32 * R
        · have hx := HA.out k hlt
          have hy := HI.out k hlt
          have hbx := Ord.ordF_bd (s := s) hR1 hlt
          generalize Ord.ordF B.length R s k = x at hx hy hbx
          by_cases hx0 : x < 0
          · rw [if_pos hx0] at hy
            have hd1 : decide (x < 0) = true := by simp [hx0]
            have hd2 : decide (0 ≤ x) = false := by simp; omega
            go_wp2
            go_quiet (fail)
            go_wp2
            go_roundw
            case rel => exact ⟨k + 1, m + nq, by omega, by go_num, by simp [World.drewN_drewN]⟩
            case measure => simp [intOf]; omega
          · rw [if_neg hx0] at hy
            obtain ⟨i, rfl⟩ := Int.eq_ofNat_of_zero_le (show 0 ≤ x by omega)
            rw [Int.toNat_natCast] at hy
            have hi : i < B.length := by omega
            have hz := HCb.out i hi
            generalize B.getD i 0 = y at hy hz
            have hd1 : decide ((i : Int) < 0) = false := by simp
            have hd2 : decide (0 ≤ (i : Int)) = true := by simp
            have hd3 : (y != y) = false := by simp
            go_wp2
            go_quiet (fail)
            go_wp2
            go_roundw
            case rel => exact ⟨k + 1, m + nq, by omega, by go_num, by simp [World.drewN_drewN]⟩
            case measure => simp [intOf]; omega
        · go_wp2_with (go_at_call 14; refine (known_true _).mono ?_; rintro e w4 ⟨rfl, hB4⟩)
          go_ret
          exact ⟨rfl, below_then (below_then hB (below_drewN _ m)) hB4⟩

set_option maxHeartbeats 2000000 in
theorem law_SubblockBack (w : World) (v : Value) (B : List Int) (s : Int) (hb : IntsIn .u8 w v B) (ws : (Lit.int .i64 s).wf = true) :
    Calls Try.prog 8 #[v, .int .i64 s] w fun e w' => e = .returned (.bool true) ∧ Below w.heap.size w w' := by
  clear ws
  obtain ⟨hv, hl, -⟩ := hb
  by_cases hbig : 1000 < B.length
  · obtain ⟨a, c, rfl, _⟩ := hv
    rw [List.length_map]
    have hgt : decide (1000 < (B.length : Int)) = true := by simp; omega
    go_enter Try.func8, Try.ntmps8
    go_wp2_with (go_at_call 14; refine (known_true _).mono ?_; rintro e w4 ⟨rfl, hB4⟩)
    go_ret
    exact ⟨rfl, hB4⟩
  by_cases h : (B.length : Int) < 1 ∨ 6148 < (B.length : Int) ∨ s < 0 ∨ 2 < s
  · have C0 := hid (fun w h => inter_err w v B s h hl (by omega))
    have HV := hid hv
    obtain ⟨a, c, rfl, _⟩ := hv
    rw [List.length_map] at C0 HV ⊢
    clear h
    go_enter Try.func8, Try.ntmps8
    go_wp2_with (first
      | (go_at_call 19; refine (C0.out _ HV.out).mono ?_; rintro e w1 ⟨rfl, hB1⟩)
      | (go_at_call 14; refine (known_true _).mono ?_; rintro e w4 ⟨rfl, hB4⟩))
    go_ret
    exact ⟨rfl, below_then hB1 hB4⟩
  · obtain ⟨R, hR⟩ : ∃ R : Nat, R = (B.length + 31) / 32 := ⟨_, rfl⟩
    have hR1 : B.length ≤ 32 * R := by omega
    have hR2 : 32 * R < B.length + 32 := by omega
    have hd0 : 1 ≤ B.length := by omega
    have hd1 : B.length ≤ 6148 := by omega
    have C0 := hid (fun w h => inter_ok w v B R s h hd0 hd1 hR1 hR2 (by omega) (by omega))
    have C1 := hid (fun w v h => deint_ok w v (Ord.interL B R s) B.length R s h (by rw [Ord.interL_len]; omega) hd0 hd1 hR1 hR2 (by omega) (by omega))
    have HV := hid hv
    have hle : B.length ≤ 1000 := by omega
    obtain ⟨a, c, rfl, _⟩ := hv
    rw [List.length_map] at C0 HV ⊢
    clear h hbig hR
    cases hok : Ord.okBits B with
    | false =>
      have HK := hid hok
      clear hok
      go_enter Try.func8, Try.ntmps8
      go_wp2_with (first
        | (go_at_call 19; refine (C0.out _ HV.out).mono ?_; rintro e w1 h1; obtain ⟨rfl, hB1⟩ := h1.bad HK.out)
        | (go_at_call 14; refine (known_true _).mono ?_; rintro e w4 ⟨rfl, hB4⟩))
      go_ret
      exact ⟨rfl, below_then hB1 hB4⟩
    | true =>
      have HK := hid hok
      clear hok
      go_enter Try.func8, Try.ntmps8
      go_wp2_with fail
      refine (C0.out _ HV.out).mono ?_
      rintro e w1 (⟨h, -⟩ | ⟨-, ⟨v1, rfl, hown1⟩, hB1⟩)
      · rw [HK.out] at h; cases h
      go_wp2_with fail
      refine (C1.out _ _ hown1.vw).mono ?_
      rintro e w2 (⟨h, -⟩ | ⟨-, h, -⟩ | ⟨-, -, ⟨v2, rfl, hown2⟩, hB2⟩)
      · rw [Ord.interL_len] at h; exact absurd rfl h
      · rw [Ord.inter_noBad hR1 HK.out] at h; cases h
      rw [Ord.deint_inter hR1] at hown2
      go_wp2_with (first
        | (go_at_call 22; refine (sameB_any _ _ _ _ _ hown2.vw ((HV.out.below hB1 (Nat.le_refl _)).below hB2 (Nat.le_refl _)) (by omega) (by omega)).mono ?_; rintro e w3 ⟨rfl, n, rfl⟩; rw [decide_eq_true rfl])
        | (go_at_call 14; refine (known_true _).mono ?_; rintro e w4 ⟨rfl, hB4⟩))
      go_ret
      exact ⟨rfl, below_then (below_then (below_then hB1 hB2) (below_drewN _ n)) hB4⟩

set_option maxHeartbeats 2000000 in
theorem law_SubblockAgain (w : World) (v : Value) (L : List Int) (d s : Int) (hb : IntsIn .u8 w v L) (wd : (Lit.int .i64 d).wf = true) (ws : (Lit.int .i64 s).wf = true) :
    Calls Try.prog 9 #[v, .int .i64 d, .int .i64 s] w fun e w' => e = .returned (.bool true) ∧ Below w.heap.size w w' := by
  clear ws wd
  obtain ⟨hv, hl, -⟩ := hb
  by_cases hbig : 1000 < L.length
  · obtain ⟨a, c, rfl, _⟩ := hv
    rw [List.length_map]
    have hgt : decide (1000 < (L.length : Int)) = true := by simp; omega
    go_enter Try.func9, Try.ntmps9
    go_wp2_with (go_at_call 14; refine (known_true _).mono ?_; rintro e w4 ⟨rfl, hB4⟩)
    go_ret
    exact ⟨rfl, hB4⟩
  by_cases h : d < 1 ∨ 6148 < d ∨ s < 0 ∨ 2 < s
  · have C0 := hid (fun w h' => deint_err w v L d s h' h)
    have C1 := hid (fun w => refOrder_err d s h w)
    have HV := hid hv
    obtain ⟨a, c, rfl, _⟩ := hv
    rw [List.length_map] at C0 HV ⊢
    clear h
    go_enter Try.func9, Try.ntmps9
    go_wp2_with (first
      | (go_at_call 21; refine (C0.out _ HV.out).mono ?_; rintro e w1 ⟨rfl, hB1⟩)
      | (go_at_call 12; refine (C1.out _).mono ?_; rintro e w2 ⟨rfl, rfl⟩)
      | (go_at_call 14; refine (known_true _).mono ?_; rintro e w4 ⟨rfl, hB4⟩))
    go_ret
    exact ⟨rfl, below_then hB1 hB4⟩
  · obtain ⟨d, rfl⟩ := Int.eq_ofNat_of_zero_le (show 0 ≤ d by omega)
    obtain ⟨R, hR⟩ : ∃ R : Nat, R = (d + 31) / 32 := ⟨_, rfl⟩
    have hR1 : d ≤ 32 * R := by omega
    have hR2 : 32 * R < d + 32 := by omega
    have hd0 : 1 ≤ d := by omega
    have hd1 : d ≤ 6148 := by omega
    have C0 := hid (fun w h => deint_ok w v L d R s h hl hd0 hd1 hR1 hR2 (by omega) (by omega))
    have C1 := hid (fun w => refOrder_ok d R s hd0 hd1 hR1 hR2 (by omega) (by omega) w)
    have C2 := hid (fun w v h => inter_ok w v (Ord.deintL L d R s) R s h (by rw [Ord.deintL_len]; omega) (by rw [Ord.deintL_len]; omega) (by rw [Ord.deintL_len]; omega) (by rw [Ord.deintL_len]; omega) (by omega) (by omega))
    have HV := hid hv
    have hle : L.length ≤ 1000 := by omega
    by_cases hlen : L.length = 32 * R
    · rcases vw_split hv with ⟨a, c, rfl, rfl⟩ | ⟨b, off, c, rfl, hp0, hc⟩
      · simp at hlen; omega
      have HC := hid hc
      have hbl : b < w.heap.size := World.block_lt_of_cell? w _ (hc 0 hp0)
      have HLn := hid hlen
      have hlt2 : 32 * R ≤ L.length := by omega
      have hlt3 : L.length ≤ 32 * R := by omega
      have hne : ((32 * (R : Int)) != (L.length : Int)) = false := by simp; omega
      clear hc hv h hbig hR hlen
      cases hok : Ord.noBad L d R s with
      | false =>
        have HK := hid hok
        have HBad := hid (show ∃ k, k < 32 * R ∧ Ord.badF L d R s k = true by
          apply Classical.byContradiction
          intro hn
          have := Ord.noBad_iff (L := L) (d := d) (R := R) (s := s) |>.2 fun k hk => by
            cases hb : Ord.badF L d R s k with
            | false => rfl
            | true => exact absurd ⟨k, hk, hb⟩ hn
          rw [hok] at this; cases this)
        clear hok
        go_enter Try.func9, Try.ntmps9
        go_wp2_with fail
        refine (C0.out _ HV.out).mono ?_
        rintro e w1 (⟨h, -⟩ | ⟨-, -, rfl, hB1⟩ | ⟨-, h, -⟩)
        · exact absurd HLn.out h
        case inr.inr => rw [HK.out] at h; cases h
        go_wp2_with (go_at_call 12; refine (C1.out _).mono ?_; rintro e w2 ⟨v2, rfl, hown2, hB2⟩; obtain ⟨g2, cap2, rfl⟩ := hown2.shape (32 * R) (by simp [Ord.outL_len]) (by omega))
        have HA := hid (show ∀ k, k < 32 * R → w2.cell? ⟨g2, k, none⟩ = some (.int .i64 (Ord.ordF d R s k)) from fun k hk => ordF_ref hown2 hk)
        have HCb := hid (show ∀ i, i < 32 * R → w2.cell? ⟨b, off + i, none⟩ = some (.int .u8 (L.getD i 0)) from fun i hi =>
          (hB2.cell (p := ⟨b, off + i, none⟩) (Nat.lt_of_lt_of_le hbl hB1.size)).trans ((hB1.cell (p := ⟨b, off + i, none⟩) hbl).trans (HC.out i (by omega))))
        have hB := below_then hB1 hB2
        clear hown2 hB1 hB2 HC
        go_loopw [11] (fun i wr => ∃ k m : Nat, k ≤ 32 * R ∧ i = .int .i64 k ∧ Hid (∀ j, j < k → Ord.badF L d R s j = false) ∧ wr = w2.drewN m) (fun i _ => 32 * R - (intOf i).toNat)
        case atStart => exact ⟨0, 0, Nat.zero_le _, rfl, fun j hj => by omega, rfl⟩
        case round =>
          obtain ⟨k, m, hk, rfl, hno, rfl⟩ := hrel
          by_cases hlt : k < 32 * R
          · have hx := HA.out k hlt
            have hy := HCb.out k hlt
            have hbx := Ord.ordF_bd (s := s) hR1 hlt
            have HBd := hid (show Ord.badF L d R s k = (((L.getD k 0 == 2) != decide (Ord.ordF d R s k < 0)) || decide (2 < L.getD k 0)) from rfl)
            generalize Ord.ordF d R s k = x at hx HBd hbx
            generalize L.getD k 0 = y at hy HBd
            have HS1 := hid (show Ord.badF L d R s k = false → ∀ j, j < k + 1 → Ord.badF L d R s j = false from fun hb j hj => by
              by_cases e : j = k
              · rw [e]; exact hb
              · exact hno.out j (by omega))
            by_cases hy2 : 2 < y
            · have hd1 : decide (2 < y) = true := by simp [hy2]
              go_wp2
              go_quiet (fail)
              go_wp2_with (go_at_call 14; refine (known_true _).mono ?_; rintro e w4 ⟨rfl, hB4⟩)
              go_ret
              exact ⟨rfl, below_then (below_then hB (below_drewN _ (m + nq))) hB4⟩
            · have hd1 : decide (2 < y) = false := by simp; omega
              rw [hd1, Bool.or_false] at HBd
              by_cases hy3 : y = 2
              · subst hy3
                by_cases hx0 : x < 0
                · have hd2 : decide (x < 0) = true := by simp [hx0]
                  have HB2 := hid (HS1.out (by rw [HBd.out, hd2]; rfl))
                  go_wp2
                  go_quiet (fail)
                  go_wp2
                  go_roundw
                  case rel => exact ⟨k + 1, m + nq, by omega, by go_num, HB2.out, by simp [World.drewN_drewN]⟩
                  case measure => simp [intOf]; omega
                · have hd2 : decide (x < 0) = false := by simp; omega
                  go_wp2
                  go_quiet (fail)
                  go_wp2_with (go_at_call 14; refine (known_true _).mono ?_; rintro e w4 ⟨rfl, hB4⟩)
                  go_ret
                  exact ⟨rfl, below_then (below_then hB (below_drewN _ (m + nq))) hB4⟩
              · have hy4 : (y == 2) = false := by simp [hy3]
                rw [hy4] at HBd
                clear hy3
                by_cases hx0 : x < 0
                · have hd2 : decide (x < 0) = true := by simp [hx0]
                  go_wp2
                  go_quiet (fail)
                  go_wp2_with (go_at_call 14; refine (known_true _).mono ?_; rintro e w4 ⟨rfl, hB4⟩)
                  go_ret
                  exact ⟨rfl, below_then (below_then hB (below_drewN _ (m + nq))) hB4⟩
                · have hd2 : decide (x < 0) = false := by simp; omega
                  have HB2 := hid (HS1.out (by rw [HBd.out, hd2]; rfl))
                  go_wp2
                  go_quiet (fail)
                  go_wp2
                  go_roundw
                  case rel => exact ⟨k + 1, m + nq, by omega, by go_num, HB2.out, by simp [World.drewN_drewN]⟩
                  case measure => simp [intOf]; omega
          · obtain rfl : k = 32 * R := by omega
            obtain ⟨j, hj, hbad⟩ := HBad.out
            have := hno.out j hj
            rw [hbad] at this; cases this
      | true =>
        have HK := hid hok
        clear hok
        go_enter Try.func9, Try.ntmps9
        go_wp2_with fail
        refine (C0.out _ HV.out).mono ?_
        rintro e w1 (⟨h, -⟩ | ⟨-, h, -⟩ | ⟨-, -, ⟨v1, rfl, hown1⟩, hB1⟩)
        · exact absurd HLn.out h
        · rw [HK.out] at h; cases h
        obtain ⟨g1, cap1, rfl⟩ := hown1.shape d (by simp [Ord.deintL_len]) (by omega)
        go_wp2_with (go_at_call 12; refine (C1.out _).mono ?_; rintro e w2 ⟨v2, rfl, hown2, hB2⟩; obtain ⟨g2, cap2, rfl⟩ := hown2.shape (32 * R) (by simp [Ord.outL_len]) (by omega))
        refine (C2.out _ _ (hown1.vw.below hB2 (Nat.le_refl _))).mono ?_
        rintro e w3 (⟨h, -⟩ | ⟨-, ⟨v3, rfl, hown3⟩, hB3⟩)
        · rw [Ord.deint_ok hR1 HK.out] at h; cases h
        rw [Ord.inter_deint hR1 HLn.out HK.out] at hown3
        go_wp2_with (first
          | (go_at_call 22; refine (sameB_any _ _ _ _ _ hown3.vw (((HV.out.below hB1 (Nat.le_refl _)).below hB2 (Nat.le_refl _)).below hB3 (Nat.le_refl _)) (by omega) (by omega)).mono ?_; rintro e w4 ⟨rfl, n, rfl⟩; rw [decide_eq_true rfl])
          | (go_at_call 14; refine (known_true _).mono ?_; rintro e w5 ⟨rfl, hB5⟩))
        go_ret
        exact ⟨rfl, below_then (below_then (below_then (below_then hB1 hB2) hB3) (below_drewN _ n)) hB5⟩
    · have HLn := hid hlen
      have hne : ((32 * (R : Int)) != (L.length : Int)) = true := by simp; omega
      obtain ⟨a, c, rfl, _⟩ := hv
      rw [List.length_map] at C0 HV ⊢
      clear h hbig hR hlen
      go_enter Try.func9, Try.ntmps9
      go_wp2_with fail
      refine (C0.out _ HV.out).mono ?_
      rintro e w1 (⟨-, rfl, hB1⟩ | ⟨h, -⟩ | ⟨h, -⟩)
      case inr.inl => exact absurd h HLn.out
      case inr.inr => exact absurd h HLn.out
      go_wp2_with (first
        | (go_at_call 12; refine (C1.out _).mono ?_; rintro e w2 ⟨v2, rfl, hown2, hB2⟩; obtain ⟨g2, cap2, rfl⟩ := hown2.shape (32 * R) (by simp [Ord.outL_len]) (by omega))
        | (go_at_call 14; refine (known_true _).mono ?_; rintro e w4 ⟨rfl, hB4⟩))
      go_ret
      exact ⟨rfl, below_then (below_then hB1 hB2) hB4⟩
end Go.Proofs.Ytpdoeibgnbdgfaa

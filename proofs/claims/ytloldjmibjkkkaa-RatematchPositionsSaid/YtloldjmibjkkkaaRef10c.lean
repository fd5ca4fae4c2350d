/- userplaneref10: Positions. -/
import Derived.Test.YtloldjmibjkkkaaRef10b
namespace Go.Proofs.Ytloldjmibjkkkaa
open Go.RowKit Go.Shelf
set_option linter.unusedVariables false
set_option maxRecDepth 100000 in
set_option maxHeartbeats 1000000 in
theorem refPos_err (k f limit rv n : Int) (h : ¬ (Rm.valid k f limit = true ∧ 0 ≤ rv ∧ rv ≤ 3 ∧ 0 ≤ n ∧ n ≤ 131072)) (w : World) :
    Calls Try.prog 20 #[.int .i64 k, .int .i64 f, .int .i64 limit, .int .i64 rv, .int .i64 n] w fun e w' => e = .returned (.tuple #[.slice none 0 0, .int .i64 2]) ∧ w = w' := by
  have C := hid (refValid_any k f limit)
  cases hv : Rm.valid k f limit with
  | false =>
    rw [hv] at C
    clear hv h
    go_enter Try.func20, Try.ntmps20
    go_wp2_with (go_at_call 12; refine (C.out _).mono ?_; rintro e w1 ⟨rfl, rfl⟩)
    go_ret2
    exact ⟨rfl, rfl⟩
  | true =>
    rw [hv] at C h
    clear hv
    have h' : rv < 0 ∨ 3 < rv ∨ n < 0 ∨ 131072 < n := by
      rcases Classical.em (rv < 0 ∨ 3 < rv ∨ n < 0 ∨ 131072 < n) with h' | h'
      · exact h'
      · exact absurd ⟨rfl, by omega, by omega, by omega, by omega⟩ h
    clear h
    by_cases e1 : rv < 0
    · clear h'
      go_enter Try.func20, Try.ntmps20
      go_wp2_with (go_at_call 12; refine (C.out _).mono ?_; rintro e w1 ⟨rfl, rfl⟩)
      go_ret2
      exact ⟨rfl, rfl⟩
    by_cases e2 : 3 < rv
    · clear h'
      go_enter Try.func20, Try.ntmps20
      go_wp2_with (go_at_call 12; refine (C.out _).mono ?_; rintro e w1 ⟨rfl, rfl⟩)
      go_ret2
      exact ⟨rfl, rfl⟩
    by_cases e3 : n < 0
    · clear h'
      go_enter Try.func20, Try.ntmps20
      go_wp2_with (go_at_call 12; refine (C.out _).mono ?_; rintro e w1 ⟨rfl, rfl⟩)
      go_ret2
      exact ⟨rfl, rfl⟩
    have e4 : 131072 < n := by omega
    clear h'
    go_enter Try.func20, Try.ntmps20
    go_wp2_with (go_at_call 12; refine (C.out _).mono ?_; rintro e w1 ⟨rfl, rfl⟩)
    go_ret2
    exact ⟨rfl, rfl⟩
set_option maxRecDepth 100000 in
set_option maxHeartbeats 1000000 in
theorem refPos_none (k f rv n S : Nat) (limit : Int) (L : List Int) (hk1 : 40 ≤ k) (hk2 : k ≤ 6144) (hf : f < k) (hl : 1 ≤ limit) (hrv : rv ≤ 3) (hn : n ≤ 131072) (hn0 : 1 ≤ n) (hS : S = Rm.size k limit) (hL : L = Rm.buf k f (Rm.rows k) S) (hu : Rm.cnt L L.length = 0) (w : World) :
    Calls Try.prog 20 #[.int .i64 k, .int .i64 f, .int .i64 limit, .int .i64 rv, .int .i64 n] w fun e w' => e = .returned (.tuple #[.slice none 0 0, .int .i64 10]) ∧ Below w.heap.size w w' := by
  have C := hid (show ∀ w, Calls Try.prog 12 #[.int .i64 k, .int .i64 f, .int .i64 limit] w fun e w' => e = .returned (.bool true) ∧ w = w' from fun w => by
    have := refValid_any k f limit w
    rwa [Rm.valid_nat hk1 hk2 hf hl] at this)
  have CB := hid (refBuffer_any k f limit hk1 hk2 hl)
  rw [← hS, ← hL] at CB
  have HL := hid (show L.length = S by rw [hL, hS]; refine Rm.buf_len ?_; unfold Rm.size; omega)
  have hSb : S ≤ 20000 := by rw [hS]; unfold Rm.size Rm.rows; omega
  have CU := hid (show ∀ w v, Vw w v (L.map (Value.int .i64)) → Calls Try.prog 16 #[v] w fun e w' => e = .returned (.int .i64 0) ∧ w = w' from fun w v h => by
    have := refUsable_any w v L h (by rw [HL.out]; omega)
    rwa [hu] at this)
  have e1 : (rv : Int) ≤ 3 := by omega
  have e2 : (0 : Int) < (n : Int) := by omega
  have e3 : (n : Int) ≤ 131072 := by omega
  clear hS hL hu hk1 hk2 hf hl hSb hrv hn hn0
  go_enter Try.func20, Try.ntmps20
  go_wp2_with (go_at_call 12; refine (C.out _).mono ?_; rintro e w1 ⟨rfl, rfl⟩)
  refine (CB.out _).mono ?_
  rintro e w2 ⟨⟨v2, rfl, V2⟩, B2⟩
  have V2' := hid V2
  clear V2 C CB
  go_wp2_with fail
  refine (CU.out _ _ V2'.out).mono ?_
  rintro e w3 ⟨rfl, rfl⟩
  go_wp2
  go_ret2
  exact ⟨rfl, B2⟩
set_option maxRecDepth 100000 in
set_option maxHeartbeats 1000000 in
theorem refPos_zero (k f rv n S : Nat) (limit : Int) (L : List Int) (hk1 : 40 ≤ k) (hk2 : k ≤ 6144) (hf : f < k) (hl : 1 ≤ limit) (hrv : rv ≤ 3) (hn : n = 0) (hS : S = Rm.size k limit) (hL : L = Rm.buf k f (Rm.rows k) S) (w : World) :
    Calls Try.prog 20 #[.int .i64 k, .int .i64 f, .int .i64 limit, .int .i64 rv, .int .i64 n] w fun e w' => e = .returned (.tuple #[.slice none 0 0, .int .i64 0]) ∧ Below w.heap.size w w' := by
  subst hn
  have C := hid (show ∀ w, Calls Try.prog 12 #[.int .i64 k, .int .i64 f, .int .i64 limit] w fun e w' => e = .returned (.bool true) ∧ w = w' from fun w => by
    have := refValid_any k f limit w
    rwa [Rm.valid_nat hk1 hk2 hf hl] at this)
  have CB := hid (refBuffer_any k f limit hk1 hk2 hl)
  rw [← hS, ← hL] at CB
  have HL := hid (show L.length = S by rw [hL, hS]; refine Rm.buf_len ?_; unfold Rm.size; omega)
  have hSz := Rm.size_bd (k := k) hl hk1
  rw [← hS] at hSz
  have CS := hid (fun w => refStart_any k S rv (Rm.rows k) hk1 hk2 rfl hSz.1 hSz.2 hrv w)
  generalize Rm.start (Rm.rows k) S rv = st at CS
  have e1 : (rv : Int) ≤ 3 := by omega
  clear hS hL hk1 hk2 hf hl hSz hrv
  go_enter Try.func20, Try.ntmps20
  go_wp2_with (go_at_call 12; refine (C.out _).mono ?_; rintro e w1 ⟨rfl, rfl⟩)
  refine (CB.out _).mono ?_
  rintro e w2 ⟨⟨v2, rfl, V2⟩, B2⟩
  obtain ⟨a2, c2, rfl, _⟩ := V2
  rw [List.length_map, HL.out]
  clear C CB
  go_wp2_with fail
  refine (CS.out _).mono ?_
  rintro e w3 ⟨rfl, rfl⟩
  go_wp2
  refine wp_loop_rounds 1 ?_
  rw [rounds_succ]
  go_wp2
  go_ret2
  exact ⟨rfl, B2⟩
set_option maxRecDepth 100000 in
set_option maxHeartbeats 2000000 in
theorem refPos_ok (k f rv n S st T c : Nat) (limit : Int) (L : List Int) (hk1 : 40 ≤ k) (hk2 : k ≤ 6144) (hf : f < k) (hl : 1 ≤ limit) (hrv : rv ≤ 3) (hn0 : 1 ≤ n) (hn : n ≤ 131072) (hS : S = Rm.size k limit) (hL : L = Rm.buf k f (Rm.rows k) S) (hst : st = Rm.start (Rm.rows k) S rv) (hT : T = n * S) (hc : c = Rm.cnt L L.length) (hu : c ≠ 0) (w : World) :
    Calls Try.prog 20 #[.int .i64 k, .int .i64 f, .int .i64 limit, .int .i64 rv, .int .i64 n] w fun e w' => (∃ v, e = .returned (.tuple #[v, .int .i64 0]) ∧ Vw w' v ((Rm.posL L st n).map (Value.int .i64))) ∧ Below w.heap.size w w' := by
  have C := hid (show ∀ w, Calls Try.prog 12 #[.int .i64 k, .int .i64 f, .int .i64 limit] w fun e w' => e = .returned (.bool true) ∧ w = w' from fun w => by
    have := refValid_any k f limit w
    rwa [Rm.valid_nat hk1 hk2 hf hl] at this)
  have CB := hid (refBuffer_any k f limit hk1 hk2 hl)
  rw [← hS, ← hL] at CB
  have HL := hid (show L.length = S by rw [hL, hS]; refine Rm.buf_len ?_; unfold Rm.size; omega)
  have hSb : S ≤ 20000 := by rw [hS]; unfold Rm.size Rm.rows; omega
  have hSz := Rm.size_bd (k := k) hl hk1
  rw [← hS] at hSz
  have CS := hid (fun w => refStart_any k S rv (Rm.rows k) hk1 hk2 rfl hSz.1 hSz.2 hrv w)
  rw [← hst] at CS
  have hst2 : st < S := by rw [hst]; exact Rm.start_lt hSz.1
  have CU := hid (show ∀ w v, Vw w v (L.map (Value.int .i64)) → Calls Try.prog 16 #[v] w fun e w' => e = .returned (.int .i64 c) ∧ w = w' from fun w v h => by
    have := refUsable_any w v L h (by rw [HL.out]; omega)
    rwa [← hc] at this)
  rw [hc] at hu
  have HU := hid (Rm.cnt_pos hu)
  have HM := hid (show ∀ m, (Rm.selL L st m).length < n → m < T from fun m hm => by
    rcases Nat.lt_or_ge m T with h | h
    · exact h
    · have h1 := Rm.selL_many (i := st) (Rm.cnt_pos hu) n
      rw [HL.out, ← hT] at h1
      have h2 := Rm.selL_mono L st h
      omega)
  have hTb : T ≤ 2621440000 := by rw [hT]; exact Nat.le_trans (Nat.mul_le_mul hn hSb) (by decide)
  have HTb := hid hTb
  have hS0 := hSz.1
  have HSb := hid hSb
  have Hst2 := hid hst2
  rw [← hc] at hu
  have hc0 : ((c : Int) == 0) = false := by rw [beq_eq_false_iff_ne]; omega
  have e1 : (rv : Int) ≤ 3 := by omega
  have e2 : (0 : Int) < (n : Int) := by omega
  have e3 : (n : Int) ≤ 131072 := by omega
  have n1 : ¬ (S : Int) = 0 := by omega
  have n2 : ¬ S = 0 := by omega
  have Hn := hid hn
  clear hS hL hst hT hSz hc hTb hSb hk1 hk2 hf hl hrv hu hst2 hn hS0 hn0
  have start : ∀ (W : World) (v : Value), Vw W v (L.map (Value.int .i64)) → ∃ b off cp, v = .slice (some ⟨b, off, none⟩) S cp ∧ (∀ j, j < S → W.cell? ⟨b, off + j, none⟩ = some (.int .i64 (L.getD j 0))) ∧ b < W.heap.size := by
    intro W v hv
    rcases vw_split hv with ⟨a, c, _, h0⟩ | ⟨b, off, cb, rfl, hp, hcl⟩
    · exfalso; rw [h0] at HL; have := HL.out; simp at this; omega
    · exact ⟨b, off, cb, by rw [HL.out], fun j hj => hcl j (by rw [HL.out]; exact hj), World.block_lt_of_cell? _ _ (hcl 0 hp)⟩
  have HStart := hid start
  clear start
  go_enter Try.func20, Try.ntmps20
  go_wp2_with (go_at_call 12; refine (C.out _).mono ?_; rintro e w1 ⟨rfl, rfl⟩)
  refine (CB.out _).mono ?_
  rintro e w2 ⟨⟨v2, rfl, V2⟩, B2⟩
  obtain ⟨b, off, cp, rfl, hcl, hbl⟩ := HStart.out _ _ V2
  have V2' := hid V2
  have HC := hid hcl
  have BB2 := hid B2
  clear V2 C CB hcl B2 HStart
  go_wp2_with fail
  refine (CU.out _ _ V2'.out).mono ?_
  rintro e w3 ⟨rfl, rfl⟩
  go_wp2_with fail
  refine (CS.out _).mono ?_
  rintro e w3 ⟨rfl, rfl⟩
  clear CU CS
  go_wp2
  go_loopw [13, 14] (fun v i wr => ∃ m q : Nat, Hid (q = st + m) ∧ i = .int .i64 q ∧ OwnL wr w2.heap.size 3 v ((Rm.selL L st m).map (Value.int .i64)) ∧ (Rm.selL L st m).length ≤ n ∧ Hid (m ≤ T) ∧ Below w2.heap.size w2 wr) (fun _ i _ => st + T - (intOf i).toNat)
  case atStart => exact ⟨0, st, rfl, rfl, OwnL.nil _ _ _, Nat.zero_le _, Nat.zero_le _, Below.refl _ _⟩
  case round =>
    obtain ⟨m, q, hq, rfl, hown, hle, hmT, hB⟩ := hrel
    obtain ⟨a, cv, rfl⟩ := hown.is_slice
    rw [List.length_map] at hown ⊢
    obtain ⟨z, hz⟩ : ∃ z, z = (Rm.selL L st m).length := ⟨_, rfl⟩
    rw [← hz] at hown hle ⊢
    by_cases hlt : z < n
    · have hmT2 := hid (HM.out m (by omega))
      obtain ⟨r, hr⟩ : ∃ r, r = q % S := ⟨_, rfl⟩
      have hrS : r < S := by rw [hr]; exact Nat.mod_lt _ (by omega)
      have er : (q : Int).tmod (S : Int) = (r : Int) := by rw [tmod_nat, hr]
      have hat : Rm.at_ L st m = L.getD r 0 := by rw [Rm.at_, HL.out, hr, hq.out]
      have HY := hid (@Rm.selL_yes L st m)
      have HNo := hid (@Rm.selL_no L st m)
      rw [hat] at HY HNo
      have hx := (hB.cell (p := ⟨b, off + r, none⟩) hbl).trans (HC.out r hrS)
      obtain ⟨x, hxe⟩ : ∃ x, x = L.getD r 0 := ⟨_, rfl⟩
      rw [← hxe] at HY HNo hx
      unfold Rm.us at HY HNo
      have HB := hid hB
      have hqb : (q : Int) + 1 ≤ 9223372036854775800 := by have := hq.out; have := hmT2.out; have := HTb.out; have := HSb.out; have := Hst2.out; omega
      have Hz := hid hz
      have HN := hid (show ((Rm.selL L st m).map (Value.int .i64)).length = z by rw [List.length_map, hz])
      clear hr hat hxe hB hz
      by_cases hn : 0 ≤ x
      · rw [decide_eq_true hn] at HY
        have hsz : w2.heap.size ≤ wr.heap.size := HB.out.size
        have Hle := hid hle
        clear hle
        go_wp2_with (at_builtin; refine wpList_append_one rfl elem_int (.tmp 66) (.tmp 74) rfl w2.heap.size _ z _ HN.out rfl hown _ rfl rfl (by have := Hn.out; omega) (by have := Hn.out; omega) hsz ?_)
        intro g cap w4 hown4 hf4
        have hB4 := hid (HB.out.trans (hf4.below hsz (fun i hi e => by have := (hown.block e).1; omega)))
        clear hown hf4 HB
        go_wp2
        go_roundw
        case rel =>
          have h2 : OwnL w4 w2.heap.size 3 (.slice (some ⟨g, 0, none⟩) (z + 1) cap) ((Rm.selL L st (m + 1)).map (Value.int .i64)) := by rw [HY.out trivial, List.map_append]; exact hown4
          refine ⟨m + 1, q + 1, by have := hq.out; show q + 1 = st + (m + 1); omega, by go_num, h2, ?_, by have := hmT2.out; show m + 1 ≤ T; omega, hB4.out⟩
          rw [HY.out trivial, List.length_append, ← Hz.out]; simp; omega
        case measure => have := hq.out; have := hmT2.out; simp [intOf]; omega
      · rw [decide_eq_false hn] at HNo
        clear HY
        go_wp2
        go_roundw
        case rel =>
          refine ⟨m + 1, q + 1, by have := hq.out; show q + 1 = st + (m + 1); omega, by go_num, ?_, ?_, by have := hmT2.out; show m + 1 ≤ T; omega, HB.out⟩
          · rw [HNo.out rfl]; exact hown
          · rw [HNo.out rfl, ← Hz.out]; exact hle
        case measure => have := hq.out; have := hmT2.out; simp [intOf]; omega
    · obtain rfl : z = n := by omega
      have HE := hid (Rm.posL_of HU.out hz.symm)
      have HB := hid hB
      clear hB hz hle
      go_wp2
      go_ret2
      refine ⟨⟨_, rfl, ?_⟩, below_then BB2.out HB.out⟩
      rw [← HE.out]
      exact hown.vw
theorem refPos_any (k f limit rv n : Int) (w : World) :
    Calls Try.prog 20 #[.int .i64 k, .int .i64 f, .int .i64 limit, .int .i64 rv, .int .i64 n] w fun e w' => (∃ v', e = .returned (.tuple #[v', .int .i64 (Rm.posR k f limit rv n).2]) ∧ Vw w' v' ((Rm.posR k f limit rv n).1.map (Value.int .i64))) ∧ Below w.heap.size w w' := by
  unfold Rm.posR
  split
  · rename_i h
    obtain ⟨hv, hr0, hr3, hn0, hn⟩ := h
    obtain ⟨h1, h2, h3, h4, h5⟩ := Rm.valid_of hv
    obtain ⟨k, rfl⟩ := Int.eq_ofNat_of_zero_le (show 0 ≤ k by omega)
    obtain ⟨f, rfl⟩ := Int.eq_ofNat_of_zero_le h3
    obtain ⟨rv, rfl⟩ := Int.eq_ofNat_of_zero_le hr0
    obtain ⟨n, rfl⟩ := Int.eq_ofNat_of_zero_le hn0
    simp only [Int.toNat_natCast]
    have hlen : (Rm.buf k f (Rm.rows k) (Rm.size k limit)).length = Rm.size k limit := by
      refine Rm.buf_len ?_
      unfold Rm.size; omega
    by_cases hz : (n : Int) = 0
    · rw [if_pos hz]
      refine (refPos_zero k f rv n _ limit _ (by omega) (by omega) (by omega) h5 (by omega) (by omega) rfl rfl w).mono ?_
      rintro e w' ⟨rfl, B⟩
      exact ⟨⟨_, rfl, Vw.nil _ _ _⟩, B⟩
    · rw [if_neg hz]
      by_cases hc : Rm.cnt (Rm.buf k f (Rm.rows k) (Rm.size k limit)) (Rm.size k limit) = 0
      · rw [if_pos hc]
        refine (refPos_none k f rv n _ limit _ (by omega) (by omega) (by omega) h5 (by omega) (by omega) (by omega) rfl rfl (by rw [hlen]; exact hc) w).mono ?_
        rintro e w' ⟨rfl, B⟩
        exact ⟨⟨_, rfl, Vw.nil _ _ _⟩, B⟩
      · rw [if_neg hc]
        exact refPos_ok k f rv n _ _ _ _ limit _ (by omega) (by omega) (by omega) h5 (by omega) (by omega) (by omega) rfl rfl rfl rfl rfl (by rw [hlen]; exact hc) w
  · rename_i h
    refine (refPos_err k f limit rv n h w).mono ?_
    rintro e w' ⟨rfl, rfl⟩
    exact ⟨⟨_, rfl, Vw.nil _ _ _⟩, below_refl _⟩
end Go.Proofs.Ytloldjmibjkkkaa

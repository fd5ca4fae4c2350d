/- userplane/subblock.Interleave and Deinterleave, userplaneref03.Valid and Own: their contracts. -/
import Derived.Test.YtpdoeibgnbdgfaaOrder
import Derived.Test.YtpdoeibgnbdgfaaInt9
import Derived.Test.YtpdoeibgnbdgfaaContB
import Derived.Test.YtpdoeibgnbdgfaaSameB
namespace Go.Proofs.Ytpdoeibgnbdgfaa
open Go.RowKit Go.Shelf
set_option linter.unusedVariables false
theorem elem_byte : Elem1 Try.prog 33 5 1 (.int .u8 0) := Elem1.mk' Try.underlying33 (by kernel_rfl) rfl

theorem vw_at {w : World} {v : Value} {B : List Int} {k : IntKind} (h : Vw w v (B.map (Value.int k))) (i : Nat) (hi : i < B.length) : ∃ b off c, v = .slice (some ⟨b, off, none⟩) B.length c ∧ w.cell? ⟨b, off + i, none⟩ = some (.int k (B.getD i 0)) := by
  obtain ⟨a, c, rfl, h⟩ := h
  obtain ⟨b, off, rfl, hc⟩ := h i (by simpa using hi)
  exact ⟨b, off, c, by simp, by rw [hc]; simp [List.getD, hi]⟩
/-- The two shapes of a slice that can be read. -/
theorem vw_split {w : World} {v : Value} {B : List Int} {k : IntKind} (h : Vw w v (B.map (Value.int k))) :
    (∃ a c, v = .slice a 0 c ∧ B = []) ∨ (∃ b off c, v = .slice (some ⟨b, off, none⟩) B.length c ∧ 0 < B.length ∧ ∀ i, i < B.length → w.cell? ⟨b, off + i, none⟩ = some (.int k (B.getD i 0))) := by
  rcases h.split with ⟨a, c, rfl, h0⟩ | ⟨b, off, c, rfl, hp, hc⟩
  · exact .inl ⟨a, c, rfl, by simpa using h0⟩
  · refine .inr ⟨b, off, c, by simp, by simpa using hp, fun i hi => ?_⟩
    rw [hc i (by simpa using hi)]
    simp [List.getD, hi]

set_option maxHeartbeats 400000 in
theorem valid_any (w : World) (v : Value) (B : List Int) (hv : Vw w v (B.map (Value.int .u8))) (hl : B.length ≤ 9223372036854775807) :
    Calls Try.prog 20 #[v] w fun e w' => e = .returned (.bool (Ord.okBits B)) ∧ w = w' := by
  rcases vw_split hv with ⟨a, c, rfl, rfl⟩ | ⟨b, off, c, rfl, hp0, hc⟩
  · go_enter Try.func20, Try.ntmps20
    go_wp2
    refine wp_loop_rounds 1 ?_
    rw [rounds_succ]
    go_wp2
    go_ret
    exact ⟨rfl, rfl⟩
  · have HC := hid hc
    clear hc hv
    go_enter Try.func20, Try.ntmps20
    go_wp2
    go_loop [3] (fun i => ∃ k : Nat, k ≤ B.length ∧ i = .int .i64 k ∧ Hid (∀ j, j < k → B.getD j 0 ≤ 1)) (fun i => B.length - (intOf i).toNat)
    case atStart => exact ⟨0, Nat.zero_le _, rfl, fun j hj => by omega⟩
    case round =>
      obtain ⟨k, hk, rfl, hno⟩ := hrel
      by_cases hlt : k < B.length
      · have hck := HC.out k hlt
        obtain ⟨x, hx⟩ : ∃ x, x = B.getD k 0 := ⟨_, rfl⟩
        rw [← hx] at hck
        have HX := hid hx
        clear hx
        by_cases h1 : 1 < x
        · go_wp2
          go_ret
          refine ⟨ret_bool ?_, rfl⟩
          symm
          rw [Ord.okBits, List.all_eq_false]
          exact ⟨B[k], List.getElem_mem hlt, by have := HX.out; simp [List.getD, hlt] at this; simp [← this]; omega⟩
        · go_wp2
          go_round
          case rel => exact ⟨k + 1, by omega, by go_num, fun j hj => by
            by_cases e : j = k
            · rw [e, ← HX.out]; omega
            · exact hno.out j (by omega)⟩
          case measure => simp [intOf]; omega
      · obtain rfl : k = B.length := by omega
        go_wp2
        go_ret
        refine ⟨ret_bool ?_, rfl⟩
        symm
        rw [Ord.okBits, List.all_eq_true]
        intro x hx
        obtain ⟨j, hj, rfl⟩ := List.getElem_of_mem hx
        have := hno.out j hj
        simpa [List.getD, hj] using this

theorem inter1_any (x : Int) (w : World) : Calls Try.prog 29 #[.int .u8 x] w fun e w' => e = .returned (.bool (decide (1 < x))) ∧ w' = w := by
  by_cases h : 1 < x
  · go_enter Try.func29, Try.ntmps29
    go_wp2
    go_ret
    exact ⟨by simp [h], rfl⟩
  · go_enter Try.func29, Try.ntmps29
    go_wp2
    go_ret
    exact ⟨by simp; omega, rfl⟩

theorem bad_any (w : World) (v : Value) (B : List Int) (hv : Vw w v (B.map (Value.int .u8))) (hl : B.length ≤ 9223372036854775807) :
    Calls Try.prog 28 #[v, .func (.func 29) #[] #[]] w fun e w' => e = .returned (.bool (!Ord.okBits B)) ∧ w = w' := by
  have := bcontains_any w v (B.map (Value.int .u8)) hv (by simpa using hl) 29 #[] (enters_of Try.func29 (by kernel_rfl) rfl) (fun i => decide (1 < B.getD i 0))
    (fun i hi => by
      have hi' : i < B.length := by simpa using hi
      have e : (B.map (Value.int .u8))[i] = Value.int .u8 (B.getD i 0) := by simp [List.getD, hi']
      rw [e]
      exact inter1_any _ _)
  rw [List.length_map, Ord.any_bad] at this
  exact this.mono fun e w' h => ⟨h.1, h.2.symm⟩

theorem inter_err (w : World) (v : Value) (B : List Int) (s : Int) (hv : Vw w v (B.map (Value.int .u8))) (hl : B.length ≤ 9223372036854775807) (h : B.length < 1 ∨ 6148 < B.length ∨ s < 0 ∨ 2 < s) :
    Calls Try.prog 19 #[v, .int .i64 s] w fun e w' => e = .returned (.tuple #[.slice none 0 0, .int .i64 2]) ∧ Below w.heap.size w w' := by
  have HO := hid (fun w => order_err B.length s (by omega) w)
  obtain ⟨a, c, rfl, _⟩ := hv
  rw [List.length_map]
  clear h
  go_enter Try.func19, Try.ntmps19
  go_wp2_with (go_at_call 11; refine (HO.out _).mono ?_; rintro e w1 ⟨rfl, hB1⟩)
  go_ret2
  exact ⟨rfl, hB1⟩

/-- What Interleave leaves at a good length. -/
def InterPost (B : List Int) (R : Nat) (s : Int) (w : World) (e : Ending) (w' : World) : Prop :=
  (Ord.okBits B = false ∧ e = .returned (.tuple #[.slice none 0 0, .int .i64 3]) ∧ Below w.heap.size w w') ∨
  (Ord.okBits B = true ∧ (∃ v', e = .returned (.tuple #[v', .int .i64 0]) ∧ OwnL w' w.heap.size 5 v' ((Ord.interL B R s).map (Value.int .u8))) ∧ Below w.heap.size w w')
set_option maxHeartbeats 1000000 in
theorem inter_ok (w : World) (v : Value) (B : List Int) (R : Nat) (s : Int) (hv : Vw w v (B.map (Value.int .u8))) (hd1 : 1 ≤ B.length) (hd2 : B.length ≤ 6148) (hR1 : B.length ≤ 32 * R) (hR2 : 32 * R < B.length + 32) (hs0 : 0 ≤ s) (hs2 : s ≤ 2) :
    Calls Try.prog 19 #[v, .int .i64 s] w (InterPost B R s w) := by
  have HO := hid (fun w => order_ok B.length R s hd1 hd2 hR1 hR2 hs0 hs2 w)
  rcases vw_split hv with ⟨a, c, rfl, rfl⟩ | ⟨b, off, c, rfl, hp0, hc⟩
  · simp at hd1
  · have HC := hid hc
    have HV := hid hv
    have hbl : b < w.heap.size := World.block_lt_of_cell? w _ (hc 0 hp0)
    clear hc hv
    cases hok : Ord.okBits B with
    | false =>
      have HK := hid hok
      clear hok
      go_enter Try.func19, Try.ntmps19
      go_wp2_with (first
        | (go_at_call 11; refine (HO.out _).mono ?_; rintro e w1 ⟨vo, rfl, hown, hB1⟩)
        | (go_at_call 28; refine (bad_any _ _ B (HV.out.below hB1 (Nat.le_refl _)) (by omega)).mono ?_; rintro e w2 ⟨rfl, rfl⟩; rw [HK.out]))
      go_ret2
      exact .inl ⟨HK.out, rfl, hB1⟩
    | true =>
      have HK := hid hok
      clear hok
      go_enter Try.func19, Try.ntmps19
      go_wp2_with (first
        | (go_at_call 11; refine (HO.out _).mono ?_; rintro e w1 ⟨vo, rfl, hown, hB1⟩; obtain ⟨g, cap, rfl⟩ := hown.shape (32 * R) (by simp [Ord.outL_len]) (by omega))
        | (go_at_call 28; refine (bad_any _ _ B (HV.out.below hB1 (Nat.le_refl _)) (by omega)).mono ?_; rintro e w2 ⟨rfl, rfl⟩; rw [HK.out])
        | (at_make; refine wpList_run_value rfl (exec_make_one elem_byte (.tmp 26) (.tmp 26) rfl .i64 .i64 _ _ (32 * R) (32 * R) rfl rfl (by omega) (by omega) (Nat.le_refl _) (by omega) (by omega)) ?_))
      have HA := hid (show ∀ k, k < 32 * R → w1.cell? ⟨g, k, none⟩ = some (.int .i64 (Ord.ordF B.length R s k)) from fun k hk => by
        rw [hown.at k (by simp [Ord.outL_len, hk])]; simp [Ord.outL])
      have hg := (hown.block (g := g) rfl).2
      have HCb := hid (show ∀ i, i < B.length → w1.cell? ⟨b, off + i, none⟩ = some (.int .u8 (B.getD i 0)) from fun i hi => (hB1.cell (p := ⟨b, off + i, none⟩) hbl).trans (HC.out i hi))
      have hbl1 : b < w1.heap.size := Nat.lt_of_lt_of_le hbl hB1.size
      have hz := OwnL.zeros w1 w1.heap.size 5 (32 * R) (.int .u8 0) (Nat.le_refl _) (by omega)
      rw [show List.replicate (32 * R) (Value.int .u8 0) = (Ord.interP B R s 0).map (Value.int .u8) by rw [Ord.interP_zero, List.map_replicate]] at hz
      clear hown
      go_loopw [30] (fun i wr => ∃ k : Nat, k ≤ 32 * R ∧ i = .int .i64 k ∧ OwnL wr w1.heap.size 5 (.slice (some ⟨w1.heap.size, 0, none⟩) (32 * R) (32 * R)) ((Ord.interP B R s k).map (Value.int .u8)) ∧ Below w1.heap.size w1 wr) (fun i _ => 32 * R - (intOf i).toNat)
      case atStart => exact ⟨0, Nat.zero_le _, rfl, hz, below_alloc _ _⟩
      case round =>
        clear hz
        obtain ⟨k, hk, rfl, hownr, hBr⟩ := hrel
        by_cases hlt : k < 32 * R
        · have hx := (hBr.cell (p := ⟨g, k, none⟩) hg).trans (HA.out k hlt)
          have hbx := Ord.ordF_bd (s := s) hR1 hlt
          have hfr := hownr.free k
          have hck := hownr.at k (by simp [Ord.interP_len, hlt])
          obtain ⟨u, hu⟩ : ∃ u : Value, wr.cell? ⟨w1.heap.size, k, none⟩ = some u := ⟨_, hck⟩
          have HI := hid (show Ord.interF B R s k = if Ord.ordF B.length R s k < 0 then 2 else B.getD (Ord.ordF B.length R s k).toNat 0 from rfl)
          obtain ⟨x, hX⟩ : ∃ x, x = Ord.ordF B.length R s k := ⟨_, rfl⟩
          rw [← hX] at hx hbx HI
          have Hown := hid hownr
          clear hX hownr hck
          by_cases hx0 : x < 0
          · rw [if_pos hx0] at HI
            go_wp2
            go_roundw
            case rel => exact ⟨k + 1, by omega, by go_num, by have := Hown.out.stored k (.int .u8 2); rw [← List.map_set, Ord.interP_set _ _ _ _ _ HI.out.symm] at this; exact this, hBr.setCell (p := ⟨w1.heap.size, k, none⟩) (Nat.le_refl _) _⟩
            case measure => simp [intOf]; omega
          · rw [if_neg hx0] at HI
            obtain ⟨i, rfl⟩ := Int.eq_ofNat_of_zero_le (show 0 ≤ x by omega)
            rw [Int.toNat_natCast] at HI
            have hi : i < B.length := by omega
            have hcb := (hBr.cell (p := ⟨b, off + i, none⟩) hbl1).trans (HCb.out i hi)
            obtain ⟨y, hy⟩ : ∃ y, y = B.getD i 0 := ⟨_, rfl⟩
            rw [← hy] at hcb HI
            clear hy
            have hne : ¬ b = w1.heap.size := by omega
            have hcb2 : (wr.setCell ⟨w1.heap.size, k, none⟩ (.int .u8 2)).cell? ⟨b, off + i, none⟩ = some (.int .u8 y) := ((Fr.setCell (S := fun b => b = w1.heap.size) wr ⟨w1.heap.size, k, none⟩ (.int .u8 2) rfl).cell (World.block_lt_of_cell? wr _ hcb) hne).trans hcb
            have Ho2 := hid (Hown.out.stored k (.int .u8 2))
            have hfr2 := Ho2.out.free k
            have hck2 := Ho2.out.at k (by simp [Ord.interP_len, hlt])
            obtain ⟨u2, hu2⟩ : ∃ u : Value, (wr.setCell ⟨w1.heap.size, k, none⟩ (.int .u8 2)).cell? ⟨w1.heap.size, k, none⟩ = some u := ⟨_, hck2⟩
            clear hck2
            go_wp2
            go_roundw
            case rel => exact ⟨k + 1, by omega, by go_num, by have := Ho2.out.stored k (.int .u8 y); rw [List.set_set, ← List.map_set, Ord.interP_set _ _ _ _ _ HI.out.symm] at this; exact this, (hBr.setCell (p := ⟨w1.heap.size, k, none⟩) (Nat.le_refl _) _).setCell (p := ⟨w1.heap.size, k, none⟩) (Nat.le_refl _) _⟩
            case measure => simp [intOf]; omega
        · obtain rfl : k = 32 * R := by omega
          rw [Ord.interP_full] at hownr
          go_wp2
          go_ret2
          exact .inr ⟨HK.out, ⟨_, rfl, hownr.base_mono hB1.size⟩, below_then hB1 hBr⟩

theorem deint_err (w : World) (v : Value) (L : List Int) (d s : Int) (hv : Vw w v (L.map (Value.int .u8))) (h : d < 1 ∨ 6148 < d ∨ s < 0 ∨ 2 < s) :
    Calls Try.prog 21 #[v, .int .i64 d, .int .i64 s] w fun e w' => e = .returned (.tuple #[.slice none 0 0, .int .i64 2]) ∧ Below w.heap.size w w' := by
  have HO := hid (fun w => order_err d s (by omega) w)
  obtain ⟨a, c, rfl, _⟩ := hv
  rw [List.length_map]
  clear h
  go_enter Try.func21, Try.ntmps21
  go_wp2_with (go_at_call 11; refine (HO.out _).mono ?_; rintro e w1 ⟨rfl, hB1⟩)
  go_ret2
  exact ⟨rfl, hB1⟩

theorem InterPost.bad {B : List Int} {R : Nat} {s : Int} {w w' : World} {e : Ending} (h : InterPost B R s w e w') (hk : Ord.okBits B = false) : e = .returned (.tuple #[.slice none 0 0, .int .i64 3]) ∧ Below w.heap.size w w' := by
  rcases h with ⟨-, h⟩ | ⟨h, -⟩
  · exact h
  · rw [hk] at h; cases h
theorem InterPost.good {B : List Int} {R : Nat} {s : Int} {w w' : World} {e : Ending} (h : InterPost B R s w e w') (hk : Ord.okBits B = true) : (∃ v', e = .returned (.tuple #[v', .int .i64 0]) ∧ OwnL w' w.heap.size 5 v' ((Ord.interL B R s).map (Value.int .u8))) ∧ Below w.heap.size w w' := by
  rcases h with ⟨h, -⟩ | ⟨-, h⟩
  · rw [hk] at h; cases h
  · exact h
/-- What Deinterleave leaves at a good length and stream. -/
def DeintPost (L : List Int) (d R : Nat) (s : Int) (w : World) (e : Ending) (w' : World) : Prop :=
  (L.length ≠ 32 * R ∧ e = .returned (.tuple #[.slice none 0 0, .int .i64 2]) ∧ Below w.heap.size w w') ∨
  (L.length = 32 * R ∧ Ord.noBad L d R s = false ∧ e = .returned (.tuple #[.slice none 0 0, .int .i64 9]) ∧ Below w.heap.size w w') ∨
  (L.length = 32 * R ∧ Ord.noBad L d R s = true ∧ (∃ v', e = .returned (.tuple #[v', .int .i64 0]) ∧ OwnL w' w.heap.size 5 v' ((Ord.deintL L d R s).map (Value.int .u8))) ∧ Below w.heap.size w w')
set_option maxHeartbeats 2000000 in
theorem deint_ok (w : World) (v : Value) (L : List Int) (d R : Nat) (s : Int) (hv : Vw w v (L.map (Value.int .u8))) (hl : L.length ≤ 9223372036854775807) (hd1 : 1 ≤ d) (hd2 : d ≤ 6148) (hR1 : d ≤ 32 * R) (hR2 : 32 * R < d + 32) (hs0 : 0 ≤ s) (hs2 : s ≤ 2) :
    Calls Try.prog 21 #[v, .int .i64 d, .int .i64 s] w (DeintPost L d R s w) := by
  have HO := hid (fun w => order_ok d R s hd1 hd2 hR1 hR2 hs0 hs2 w)
  by_cases hlen : L.length = 32 * R
  · rcases vw_split hv with ⟨a, c, rfl, rfl⟩ | ⟨b, off, c, rfl, hp0, hc⟩
    · simp at hlen; omega
    · have HC := hid hc
      have hbl : b < w.heap.size := World.block_lt_of_cell? w _ (hc 0 hp0)
      have HLn := hid hlen
      have HLe : L.length ≤ 32 * R := by omega
      have HLg : 32 * R ≤ L.length := by omega
      have hne : ((32 * (R : Int)) != (L.length : Int)) = false := by simp; omega
      clear hc hv hlen
      go_enter Try.func21, Try.ntmps21
      go_wp2_with (first
        | (go_at_call 11; refine (HO.out _).mono ?_; rintro e w1 ⟨vo, rfl, hown, hB1⟩; obtain ⟨g, cap, rfl⟩ := hown.shape (32 * R) (by simp [Ord.outL_len]) (by omega))
        | (at_make; refine wpList_run_value rfl (exec_make_one elem_byte (.tmp 29) (.tmp 29) rfl .i64 .i64 _ _ d d rfl rfl rfl rfl (Nat.le_refl _) (by omega) (by omega)) ?_))
      have HA := hid (show ∀ k, k < 32 * R → w1.cell? ⟨g, k, none⟩ = some (.int .i64 (Ord.ordF d R s k)) from fun k hk => by
        rw [hown.at k (by simp [Ord.outL_len, hk])]; simp [Ord.outL])
      have hg := (hown.block (g := g) rfl).2
      have HCb := hid (show ∀ i, i < 32 * R → w1.cell? ⟨b, off + i, none⟩ = some (.int .u8 (L.getD i 0)) from fun i hi => (hB1.cell (p := ⟨b, off + i, none⟩) hbl).trans (HC.out i (by omega)))
      have hbl1 : b < w1.heap.size := Nat.lt_of_lt_of_le hbl hB1.size
      have hz := OwnL.zeros w1 w1.heap.size 5 d (.int .u8 0) (Nat.le_refl _) (by omega)
      rw [show List.replicate d (Value.int .u8 0) = (Ord.deintP L d R s 0).map (Value.int .u8) by rw [Ord.deintP_zero, List.map_replicate]] at hz
      clear hown HC
      go_loopw [33] (fun i wr => ∃ k : Nat, k ≤ 32 * R ∧ i = .int .i64 k ∧ Hid (∀ j, j < k → Ord.badF L d R s j = false) ∧ OwnL wr w1.heap.size 5 (.slice (some ⟨w1.heap.size, 0, none⟩) d d) ((Ord.deintP L d R s k).map (Value.int .u8)) ∧ Below w1.heap.size w1 wr) (fun i _ => 32 * R - (intOf i).toNat)
      case atStart => exact ⟨0, Nat.zero_le _, rfl, fun j hj => by omega, hz, below_alloc _ _⟩
      case round =>
        clear hz
        obtain ⟨k, hk, rfl, hno, hownr, hBr⟩ := hrel
        by_cases hlt : k < 32 * R
        · have hx := (hBr.cell (p := ⟨g, k, none⟩) hg).trans (HA.out k hlt)
          have hy := (hBr.cell (p := ⟨b, off + k, none⟩) hbl1).trans (HCb.out k hlt)
          have hbx := Ord.ordF_bd (s := s) hR1 hlt
          have HBd := hid (show Ord.badF L d R s k = (((L.getD k 0 == 2) != decide (Ord.ordF d R s k < 0)) || decide (2 < L.getD k 0)) from rfl)
          obtain ⟨x, hX⟩ : ∃ x, x = Ord.ordF d R s k := ⟨_, rfl⟩
          obtain ⟨y, hY⟩ : ∃ y, y = L.getD k 0 := ⟨_, rfl⟩
          rw [← hX] at hx hbx HBd
          rw [← hY] at hy HBd
          have Hown := hid hownr
          have HX := hid hX
          have HY := hid hY
          clear hX hY hownr
          have hs1 : ∀ j, j < k + 1 → Ord.badF L d R s k = false → Ord.badF L d R s j = false := fun j hj hb => by
            by_cases e : j = k
            · rw [e]; exact hb
            · exact hno.out j (by omega)
          have HS1 := hid hs1
          clear hs1
          by_cases hx0 : x < 0
          · have hd1 : decide (x < 0) = true := by simp [hx0]
            have HM := hid (Ord.deintP_miss (L := L) hR1 hlt (by rw [← HX.out]; exact hx0))
            by_cases hy2 : y = 2
            · subst hy2
              have HB2 := hid (show Ord.badF L d R s k = false by rw [HBd.out, hd1]; rfl)
              go_wp2
              go_roundw
              case rel => exact ⟨k + 1, by omega, by go_num, fun j hj => HS1.out j hj HB2.out, by rw [HM.out]; exact Hown.out, hBr⟩
              case measure => simp [intOf]; omega
            · have hy3 : (y == 2) = false := by simp [hy2]
              have HB2 := hid (show Ord.badF L d R s k = true by rw [HBd.out, hd1, hy3]; rfl)
              clear hy2
              go_wp2
              go_ret2
              exact .inr (.inl ⟨HLn.out, Ord.noBad_no hlt HB2.out, rfl, below_then hB1 hBr⟩)
          · have hd1 : decide (x < 0) = false := by simp; omega
            obtain ⟨i, rfl⟩ := Int.eq_ofNat_of_zero_le (show 0 ≤ x by omega)
            have hi : i < d := by omega
            have HH := hid (Ord.deintP_hit (L := L) hR1 hlt HX.out.symm hi)
            rw [← HY.out] at HH
            by_cases hy2 : y = 2
            · have hy3 : (y == 2) = true := by simp [hy2]
              have HB2 := hid (show Ord.badF L d R s k = true by rw [HBd.out, hd1, hy3]; rfl)
              clear hy2
              go_wp2
              go_ret2
              exact .inr (.inl ⟨HLn.out, Ord.noBad_no hlt HB2.out, rfl, below_then hB1 hBr⟩)
            · have hy3 : (y == 2) = false := by simp [hy2]
              clear hy2
              by_cases hy4 : 2 < y
              · have HB2 := hid (show Ord.badF L d R s k = true by rw [HBd.out, hd1, hy3, decide_eq_true hy4]; rfl)
                go_wp2
                go_ret2
                exact .inr (.inl ⟨HLn.out, Ord.noBad_no hlt HB2.out, rfl, below_then hB1 hBr⟩)
              · have HB2 := hid (show Ord.badF L d R s k = false by rw [HBd.out, hd1, hy3, decide_eq_false hy4]; rfl)
                have hfr := Hown.out.free i
                obtain ⟨u, hu⟩ : ∃ u : Value, wr.cell? ⟨w1.heap.size, i, none⟩ = some u := ⟨_, Hown.out.at i (by simp [Ord.deintP_len, hi])⟩
                go_wp2
                go_roundw
                case rel => exact ⟨k + 1, by omega, by go_num, fun j hj => HS1.out j hj HB2.out, by have := Hown.out.stored i (.int .u8 y); rw [← List.map_set, HH.out] at this; exact this, hBr.setCell (p := ⟨w1.heap.size, i, none⟩) (Nat.le_refl _) _⟩
                case measure => simp [intOf]; omega
        · obtain rfl : k = 32 * R := by omega
          rw [Ord.deintP_full hR1] at hownr
          go_wp2
          go_ret2
          exact .inr (.inr ⟨HLn.out, Ord.noBad_iff.2 hno.out, ⟨_, rfl, hownr.base_mono hB1.size⟩, below_then hB1 hBr⟩)
  · obtain ⟨a, c, rfl, _⟩ := hv
    rw [List.length_map]
    have hne : ((32 * (R : Int)) != (L.length : Int)) = true := by simp; omega
    have HLn := hid hlen
    clear hlen
    go_enter Try.func21, Try.ntmps21
    go_wp2_with (go_at_call 11; refine (HO.out _).mono ?_; rintro e w1 ⟨vo, rfl, hown, hB1⟩; obtain ⟨g, cap, rfl⟩ := hown.shape (32 * R) (by simp [Ord.outL_len]) (by omega))
    go_ret2
    exact .inl ⟨HLn.out, rfl, hB1⟩
theorem DeintPost.good {L : List Int} {d R : Nat} {s : Int} {w w' : World} {e : Ending} (h : DeintPost L d R s w e w') (hl : L.length = 32 * R) (hk : Ord.noBad L d R s = true) : (∃ v', e = .returned (.tuple #[v', .int .i64 0]) ∧ OwnL w' w.heap.size 5 v' ((Ord.deintL L d R s).map (Value.int .u8))) ∧ Below w.heap.size w w' := by
  rcases h with ⟨h, -⟩ | ⟨-, h, -⟩ | ⟨-, -, h⟩
  · exact absurd hl h
  · rw [hk] at h; cases h
  · exact h
end Go.Proofs.Ytpdoeibgnbdgfaa

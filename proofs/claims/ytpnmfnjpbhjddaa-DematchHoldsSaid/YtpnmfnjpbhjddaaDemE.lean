/- userplane/dematch: Add. -/
import Derived.Test.YtpnmfnjpbhjddaaDemB
import Derived.Test.YtpnmfnjpbhjddaaDemD
namespace Go.Proofs.Ytpnmfnjpbhjddaa
open Go.RowKit Go.Shelf
set_option linter.unusedVariables false
attribute [local go_sem ↓] Go.wp_at_zero Go.wp_at_succ
/-- Positions, its slice in a block of the call's own. -/
theorem rmPosA_any (k f limit rv n : Int) (w : World) :
    Calls Try.prog 23 #[.int .i64 k, .int .i64 f, .int .i64 limit, .int .i64 rv, .int .i64 n] w fun e w' => (∃ v', e = .returned (.tuple #[v', .int .i64 (Rm.posR k f limit rv n).2]) ∧ VwA w' w.heap.size v' ((Rm.posR k f limit rv n).1.map (Value.int .i64))) ∧ Below w.heap.size w w' := by
  unfold Rm.posR
  split
  · rename_i h
    obtain ⟨hv, hr0, hr3, hn0, hn⟩ := h
    obtain ⟨h1, h2, h3, h4, h5⟩ := Rm.valid_of hv
    obtain ⟨k, rfl⟩ := Int.eq_ofNat_of_zero_le (show 0 ≤ k by omega)
    obtain ⟨f, rfl⟩ := Int.eq_ofNat_of_zero_le h3
    obtain ⟨rv, rfl⟩ := Int.eq_ofNat_of_zero_le hr0
    obtain ⟨n, rfl⟩ := Int.eq_ofNat_of_zero_le hn0
    simp only [Int.toNat_natCast]
    have hlen : (Rm.buf k f (Rm.rows k) (Rm.size k limit)).length = Rm.size k limit := by
      refine Rm.buf_len ?_
      unfold Rm.size; omega
    by_cases hz : (n : Int) = 0
    · rw [if_pos hz]
      refine (rmPos_zero k f rv n limit (by omega) (by omega) (by omega) h5 (by omega) (by omega) _ _ _ rfl rfl rfl (by omega) trivial w).mono ?_
      rintro e w' ⟨rfl, B⟩
      exact ⟨⟨_, rfl, VwA.nil _ _ _⟩, B⟩
    · rw [if_neg hz]
      by_cases hc : Rm.cnt (Rm.buf k f (Rm.rows k) (Rm.size k limit)) (Rm.size k limit) = 0
      · rw [if_pos hc]
        refine (rmPos_none k f rv n limit (by omega) (by omega) (by omega) h5 (by omega) (by omega) _ _ _ rfl rfl rfl (by omega) (by rw [hlen]; exact hc) w).mono ?_
        rintro e w' ⟨rfl, B⟩
        exact ⟨⟨_, rfl, VwA.nil _ _ _⟩, B⟩
      · rw [if_neg hc]
        refine (rmPos_ok k f rv n limit (by omega) (by omega) (by omega) h5 (by omega) (by omega) (by omega) _ _ _ _ rfl rfl rfl rfl (by rw [hlen]; exact hc) w).mono ?_
        rintro e w' ⟨⟨v', rfl, O⟩, B⟩
        exact ⟨⟨_, rfl, O.vwA⟩, B⟩
  · rename_i h
    refine (rmPos_err k f limit rv n h w).mono ?_
    rintro e w' ⟨rfl, B⟩
    exact ⟨⟨_, rfl, VwA.nil _ _ _⟩, B⟩
/-- How the jump to 'wrong' finds the frame. -/
def addJ (w : World) (g : Nat) (rv : Int) (vl : Value) (E : Int) (A : Act) (W : World) : Prop := (fun A W => (∃ x3 x4 x5 x7 x8 x9 x10 x11 x12 x13 x14 x15 x16 x17 x18 x19 x20 x21 x22 x23 x24 x25 x26 x27 x28 x29 x30 x31 x32 x33 x34 x35 x36 x37 x38 x39 x40 x41 x42 x43 x44 x45 x46 x47 x48 x49 x50 x51 x52 x53 x54 x55 x56 x57 x58 : Value, A = { tmps := #[.pointer (some ⟨g, 0, none⟩), .int .i64 rv, vl, x3, x4, x5, .int .i64 E, x7, x8, x9, x10, x11, x12, x13, x14, x15, x16, x17, x18, x19, x20, x21, x22, x23, x24, x25, x26, x27, x28, x29, x30, x31, x32, x33, x34, x35, x36, x37, x38, x39, x40, x41, x42, x43, x44, x45, x46, x47, x48, x49, x50, x51, x52, x53, x54, x55, x56, x57, x58], defers := [] }) ∧ Below w.heap.size w W) A W
set_option maxHeartbeats 2000000 in
/-- The values are not valid. -/
theorem dadd_bad {w : World} {g q k f : Nat} {limit n : Int} {V L : List Int} (rv : Int) {vl : Value} (hD : DB w g q k f limit V n) (hl : Vw w vl (L.map (Value.int .i64))) (hLb : L.length ≤ 1000000) (hbad : 131072 < L.length ∨ Soft.bad L = true) :
    Calls Try.prog 12 #[.pointer (some ⟨g, 0, none⟩), .int .i64 rv, vl] w fun e w' => e = .returned (.int .i64 2) ∧ Below w.heap.size w w' := by
  have HN := hid (dnone_no hD)
  have HV := hid (valid_any w vl L hl (by omega))
  obtain ⟨al, cl, rfl, _⟩ := hl
  simp only [List.length_map] at HV ⊢
  generalize hM : L.length = M at *
  clear hM hD
  go_enter Try.func12, Try.ntmps12
  go_wp2_with fail
  refine wp_scope_fwd 0 (addJ w g rv (.slice al M cl) 2) rfl ?first ?pass
  case pass =>
    rintro A W ⟨⟨x3, x4, x5, x7, x8, x9, x10, x11, x12, x13, x14, x15, x16, x17, x18, x19, x20, x21, x22, x23, x24, x25, x26, x27, x28, x29, x30, x31, x32, x33, x34, x35, x36, x37, x38, x39, x40, x41, x42, x43, x44, x45, x46, x47, x48, x49, x50, x51, x52, x53, x54, x55, x56, x57, x58, rfl⟩, hBW⟩
    go_wp2
    first
    | go_ret
    | (rw [Exit.noGoto_ret]; go_ret)
    exact ⟨rfl, hBW⟩
  case first =>
    go_wp2_with fail
    refine HN.out.mono ?_
    rintro r w1 ⟨rfl, rfl⟩
    by_cases hbig : 131072 < M
    · have hd : decide (131072 < (M : Int)) = true := decide_eq_true (by omega)
      go_wp2
      go_step3
      exact ⟨rfl, ⟨_, _, _, _, _, _, _, _, _, _, _, _, _, _, _, _, _, _, _, _, _, _, _, _, _, _, _, _, _, _, _, _, _, _, _, _, _, _, _, _, _, _, _, _, _, _, _, _, _, _, _, _, _, _, _, rfl⟩, below_refl _⟩
    · have hd : decide (131072 < (M : Int)) = false := decide_eq_false (by omega)
      rw [hbad.resolve_left hbig] at HV
      clear hbad
      go_wp2_with fail
      refine HV.out.mono ?_
      rintro r w1 ⟨rfl, B⟩
      go_wp2
      go_step3
      exact ⟨rfl, ⟨_, _, _, _, _, _, _, _, _, _, _, _, _, _, _, _, _, _, _, _, _, _, _, _, _, _, _, _, _, _, _, _, _, _, _, _, _, _, _, _, _, _, _, _, _, _, _, _, _, _, _, _, _, _, _, rfl⟩, B⟩
set_option maxHeartbeats 4000000 in
/-- No positions: the buffer stays. -/
theorem dadd_err {w : World} {g q k f : Nat} {limit n : Int} {V L : List Int} (rv E : Int) {vl : Value} (hD : DB w g q k f limit V n) (hl : Vw w vl (L.map (Value.int .i64))) (hLb : L.length ≤ 131072) (hbad : Soft.bad L = false) (hE : (Rm.posR k f limit rv L.length).2 = E) (hE0 : E ≠ 0) :
    Calls Try.prog 12 #[.pointer (some ⟨g, 0, none⟩), .int .i64 rv, vl] w fun e w' => e = .returned (.int .i64 E) ∧ Below w.heap.size w w' := by
  have HN := hid (dnone_no hD)
  have HV := hid (valid_any w vl L hl (by omega))
  rw [hbad] at HV
  have HP := hid (rmPosA_any k f limit rv L.length)
  rw [hE] at HP
  generalize (Rm.posR k f limit rv L.length).1 = A at HP
  obtain ⟨al, cl, rfl, _⟩ := hl
  simp only [List.length_map] at HV ⊢
  have HD := hid hD
  generalize L.length = M at *
  have hd : decide (131072 < (M : Int)) = false := decide_eq_false (by omega)
  have hE1 : ((E : Int) != 0) = true := by simp [hE0]
  clear hD hE hE0
  go_enter Try.func12, Try.ntmps12
  go_wp2_with fail
  refine wp_scope_fwd 0 (addJ w g rv (.slice al M cl) E) rfl ?first ?pass
  case pass =>
    rintro A W ⟨⟨x3, x4, x5, x7, x8, x9, x10, x11, x12, x13, x14, x15, x16, x17, x18, x19, x20, x21, x22, x23, x24, x25, x26, x27, x28, x29, x30, x31, x32, x33, x34, x35, x36, x37, x38, x39, x40, x41, x42, x43, x44, x45, x46, x47, x48, x49, x50, x51, x52, x53, x54, x55, x56, x57, x58, rfl⟩, hBW⟩
    go_wp2
    first
    | go_ret
    | (rw [Exit.noGoto_ret]; go_ret)
    exact ⟨rfl, hBW⟩
  case first =>
    go_wp2_with fail
    refine HN.out.mono ?_
    rintro r w1 ⟨rfl, rfl⟩
    go_wp2_with fail
    refine HV.out.mono ?_
    rintro r w1 ⟨rfl, B1⟩
    have hS0 := hid (HD.out.blw B1)
    have HB1 := hid B1
    clear B1
    go_wp2_with fail
    have HS := hid (fun U (h : Below w1.heap.size w1 U) => (show U.cell? ⟨g, 0, none⟩ = some (.int .i64 k) ∧ U.cell? ⟨g, 1, none⟩ = some (.int .i64 f) ∧ U.cell? ⟨g, 2, none⟩ = some (.int .i64 limit) from
      (hS0.out.blw h).ex.elim fun cap hh => ⟨hh.1.cell 0, hh.1.cell 1, hh.1.cell 2⟩))
    have K := hid (fun U (h : Below w1.heap.size w1 U) => (HP.out U).mono fun e V' h' => (show (∃ v', e = .returned (.tuple #[v', .int .i64 E]) ∧ VwA V' U.heap.size v' (A.map (Value.int .i64))) ∧ Below w1.heap.size w1 V' from ⟨h'.1, below_then h h'.2⟩))
    have hB0 : Below w1.heap.size w1 w1.drew := below_drewN w1 1
    go_region_held3 (fun U => U.cell? ⟨g, 0, none⟩ = some (.int .i64 k) ∧ U.cell? ⟨g, 1, none⟩ = some (.int .i64 f) ∧ U.cell? ⟨g, 2, none⟩ = some (.int .i64 limit)) (exact HS.out _ (by assumption))
      ((first
        | (go_at_call 23; refine (K.out _ (by assumption)).mono ?_; rintro e w2 ⟨⟨v', rfl, hVA⟩, hB2⟩)))
    all_goals
      have HB2 := hid (below_then HB1.out hB2)
      clear hVA hB2 hB0
      go_wp2
      go_step3
      exact ⟨rfl, ⟨_, _, _, _, _, _, _, _, _, _, _, _, _, _, _, _, _, _, _, _, _, _, _, _, _, _, _, _, _, _, _, _, _, _, _, _, _, _, _, _, _, _, _, _, _, _, _, _, _, _, _, _, _, _, _, rfl⟩, HB2.out⟩
end Go.Proofs.Ytpnmfnjpbhjddaa

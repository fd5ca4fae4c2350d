/- userplanelaw11: SoftSums. -/
import Derived.Test.YtmbjcpppbgapbaaLaws11a
import Derived.Test.YtmbjcpppbgapbaaCopy
namespace Go.Proofs.Ytmbjcpppbgapbaa
open Go.RowKit Go.Shelf
set_option linter.unusedVariables false
set_option maxHeartbeats 1000000 in
theorem law_SoftSums (w : World) (va : Value) (A : List Int) (vb : Value) (B : List Int) (w0 : IntsIn .i64 w va A) (w1 : IntsIn .i64 w vb B) :
    Calls Try.prog 4 #[va, vb] w fun e w' => e = .returned (.bool true) ∧ Below w.heap.size w w' := by
  obtain ⟨hva, hl, _⟩ := w0
  obtain ⟨hvb, hlb, _⟩ := w1
  have HA := hid hva
  have HB := hid hvb
  by_cases h : 500 < A.length
  · obtain ⟨a, c, rfl, _⟩ := hva
    obtain ⟨b, d, rfl, _⟩ := hvb
    rw [List.length_map] at HA ⊢
    rw [List.length_map] at HB ⊢
    have hd : decide (500 < (A.length : Int)) = true := by simp; omega
    go_enter Try.func4, Try.ntmps4
    go_wp2_with (go_at_call 14; refine (works11 _).mono ?_; rintro e w3 ⟨rfl, B3⟩)
    go_ret
    exact ⟨rfl, B3⟩
  have hd : decide (500 < (A.length : Int)) = false := by simp; omega
  by_cases h' : 500 < B.length
  · obtain ⟨a, c, rfl, _⟩ := hva
    obtain ⟨b, d, rfl, _⟩ := hvb
    rw [List.length_map] at HA ⊢
    rw [List.length_map] at HB ⊢
    have hd' : decide (500 < (B.length : Int)) = true := by simp; omega
    go_enter Try.func4, Try.ntmps4
    go_wp2_with (go_at_call 14; refine (works11 _).mono ?_; rintro e w3 ⟨rfl, B3⟩)
    go_ret
    exact ⟨rfl, B3⟩
  have hd' : decide (500 < (B.length : Int)) = false := by simp; omega
  have C1 := hid (fun w va vb h1 h2 => sum_any w va vb A B h1 h2 (by omega) (by omega))
  have C2 := hid (fun w va vb h1 h2 => refSum_any w va vb A B h1 h2 (by omega) (by omega))
  have C3 := hid (fun w h => valid_any w va A h (by omega))
  have C4 := hid (fun w h => refValid_any w va A h (by omega))
  have hR := Soft.sumR_len A B
  generalize Soft.sumR A B = R at *
  obtain ⟨R1, R2⟩ := R
  dsimp only at C1 C2 hR
  have hx : (R2 == R2) = true := by simp
  generalize Soft.bad A = q at *
  have hqq : ((!q) == (!q)) = true := by simp
  obtain ⟨a, c, rfl, _⟩ := hva
  obtain ⟨b, d, rfl, _⟩ := hvb
  rw [List.length_map] at HA C3 C4 ⊢
  rw [List.length_map] at HB ⊢
  go_enter Try.func4, Try.ntmps4
  go_wp2_with (first
    | (at_builtin; refine wpList_copy_list rfl ielem_map (.tmp 20) (.tmp 21) rfl rfl _ (A.map (Value.int .i64)) rfl HA.out (one_ints _ _) (by simp; omega) (by simp; omega) ?_; intro va' w1 O1 B1; have H1 := hid O1.vw; clear O1)
    | (at_builtin; refine wpList_copy_list rfl ielem_map (.tmp 23) (.tmp 24) rfl rfl _ (B.map (Value.int .i64)) rfl (HB.out.below B1 (Nat.le_refl _)) (one_ints _ _) (by simp; omega) (by simp; omega) ?_; intro vb' w2 O2 B2; have H2 := hid O2.vw; clear O2))
  have HA2 := hid (H1.out.below B2 (Nat.le_refl _))
  have B12 := below_then B1 B2
  clear B1 B2 H1
  refine (C1.out _ _ _ HA2.out H2.out).mono ?_
  rintro e w3 ⟨⟨v3, rfl, V3⟩, B3⟩
  have H3 := hid V3
  clear V3
  have B13 := below_then B12 B3
  have HA3 := hid (HA2.out.below B3 (Nat.le_refl _))
  have HB3 := hid (H2.out.below B3 (Nat.le_refl _))
  clear HA2 H2 B3 B12
  go_wp2_with fail
  refine (C2.out _ _ _ (HA.out.below B13 (Nat.le_refl _)) (HB.out.below B13 (Nat.le_refl _))).mono ?_
  rintro e w4 ⟨⟨v4, rfl, V4⟩, B4⟩
  have B14 := below_then B13 B4
  go_wp2_with fail
  refine (same11_true _ _ _ R1 (H3.out.below B4 (Nat.le_refl _)) V4 (by omega)).mono ?_
  rintro e w5 ⟨rfl, B5⟩
  have B15 := below_then B14 B5
  have HA5 := hid ((HA3.out.below B4 (Nat.le_refl _)).below B5 (Nat.le_refl _))
  have HB5 := hid ((HB3.out.below B4 (Nat.le_refl _)).below B5 (Nat.le_refl _))
  clear HA3 HB3 B4 B5 B14 B13 V4
  go_wp2_with (go_at_call 18; refine (num_any _ _).mono ?_; rintro r w' ⟨rfl, rfl⟩)
  refine (C3.out _ (HA.out.below B15 (Nat.le_refl _))).mono ?_
  rintro e w6 ⟨rfl, B6⟩
  have B16 := below_then B15 B6
  go_wp2_with fail
  refine (C4.out _ (HA.out.below B16 (Nat.le_refl _))).mono ?_
  rintro e w' ⟨rfl, rfl⟩
  go_wp2_with fail
  refine (same11_true _ _ _ A (HA.out.below B16 (Nat.le_refl _)) (HA5.out.below B6 (Nat.le_refl _)) (by omega)).mono ?_
  rintro e w7 ⟨rfl, B7⟩
  have B17 := below_then B16 B7
  go_wp2_with fail
  refine (same11_true _ _ _ B (HB.out.below B17 (Nat.le_refl _)) ((HB5.out.below B6 (Nat.le_refl _)).below B7 (Nat.le_refl _)) (by omega)).mono ?_
  rintro e w8 ⟨rfl, B8⟩
  go_wp2_with (go_at_call 14; refine (works11 _).mono ?_; rintro e w9 ⟨rfl, B9⟩)
  go_ret
  exact ⟨rfl, below_then (below_then B17 B8) B9⟩
end Go.Proofs.Ytmbjcpppbgapbaa

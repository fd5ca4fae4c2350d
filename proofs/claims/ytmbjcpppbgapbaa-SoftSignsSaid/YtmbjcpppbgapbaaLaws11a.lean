/- userplanelaw11: SoftAdds, SoftScales, SoftCompares, SoftHards. -/
import Derived.Test.YtmbjcpppbgapbaaSoftW
namespace Go.Proofs.Ytmbjcpppbgapbaa
open Go.RowKit Go.Shelf
set_option linter.unusedVariables false
namespace Soft
theorem sumR_len (A B : List Int) : (sumR A B).1.length ≤ A.length := by
  by_cases h : bad A = true ∨ bad B = true ∨ A.length ≠ B.length
  · rw [sumR, if_pos h]; simp
  · rw [sumR, if_neg h]; simp [tab_len]
theorem sclR_len (A : List Int) (p q : Int) : (sclR A p q).1.length ≤ A.length := by
  unfold sclR; split <;> simp [tab_len]
theorem hardR_len (A : List Int) : (hardR A).1.length ≤ A.length := by
  unfold hardR; split <;> simp [tab_len]
theorem idlR_len (A : List Int) (m : Int) : (idlR A m).1.length ≤ A.length := by
  unfold idlR; split
  · simp
  · split <;> simp [tab_len]
end Soft
theorem same11_true (w : World) (va vb : Value) (A : List Int) (ha : Vw w va (A.map (Value.int .i64))) (hb : Vw w vb (A.map (Value.int .i64))) (hl : A.length ≤ 9223372036854775807) :
    Calls Try.prog 17 #[va, vb] w fun r w' => r = .returned (.bool true) ∧ Below w.heap.size w w' := by
  have H := same11_any w va vb A A ha hb hl hl
  rw [decide_eq_true rfl] at H
  exact H.mono fun e w' ⟨h1, m, h2⟩ => ⟨h1, by subst h2; exact below_drewN _ m⟩

theorem law_SoftAdds (a b : Int) (w0 : (Lit.int .i64 a).wf = true) (w1 : (Lit.int .i64 b).wf = true) (w : World) :
    Calls Try.prog 3 #[.int .i64 a, .int .i64 b] w fun e w' => e = .returned (.bool true) ∧ Below w.heap.size w w' := by
  clear w0 w1
  have C1 := hid (clamp_any a)
  have C2 := hid (refClamp_any a)
  have C3 := hid (add_any a b)
  have C4 := hid (refAdd_any a b)
  generalize Soft.clamp a = x at *
  generalize Soft.add a b = y at *
  have hx : (x == x) = true := by simp
  have hy : (y == y) = true := by simp
  go_enter Try.func3, Try.ntmps3
  go_wp2_with (first
    | (go_at_call 10; refine (C1.out _).mono ?_; rintro e w1 ⟨rfl, B1⟩)
    | (go_at_call 11; refine (C2.out _).mono ?_; rintro e w' ⟨rfl, rfl⟩)
    | (go_at_call 12; refine (C3.out _).mono ?_; rintro e w2 ⟨rfl, B2⟩)
    | (go_at_call 13; refine (C4.out _).mono ?_; rintro e w' ⟨rfl, rfl⟩)
    | (go_at_call 14; refine (works11 _).mono ?_; rintro e w3 ⟨rfl, B3⟩))
  go_ret
  exact ⟨rfl, below_then (below_then B1 B2) B3⟩

set_option maxHeartbeats 1000000 in
theorem law_SoftScales (w : World) (va : Value) (A : List Int) (p q : Int) (w0 : IntsIn .i64 w va A) (w1 : (Lit.int .i64 p).wf = true) (w2 : (Lit.int .i64 q).wf = true) :
    Calls Try.prog 5 #[va, .int .i64 p, .int .i64 q] w fun e w' => e = .returned (.bool true) ∧ Below w.heap.size w w' := by
  obtain ⟨hva, hl, _⟩ := w0
  clear w1 w2
  have HA := hid hva
  by_cases h : 500 < A.length
  · obtain ⟨a, c, rfl, _⟩ := hva
    have hd : decide (500 < (A.length : Int)) = true := by simp; omega
    rw [List.length_map]
    go_enter Try.func5, Try.ntmps5
    go_wp2_with (go_at_call 14; refine (works11 _).mono ?_; rintro e w3 ⟨rfl, B3⟩)
    go_ret
    exact ⟨rfl, B3⟩
  · have C1 := hid (fun w h => scale_any w va A p q h (by omega))
    have C2 := hid (fun w h => refScale_any w va A p q h (by omega))
    have hR := Soft.sclR_len A p q
    generalize Soft.sclR A p q = R at *
    obtain ⟨R1, R2⟩ := R
    dsimp only at C1 C2 hR
    have hx : (R2 == R2) = true := by simp
    obtain ⟨a, c, rfl, _⟩ := hva
    rw [List.length_map] at HA C1 C2 ⊢
    go_enter Try.func5, Try.ntmps5
    go_wp2_with fail
    refine (C1.out _ HA.out).mono ?_
    rintro e w1 ⟨⟨v1, rfl, V1⟩, B1⟩
    go_wp2_with fail
    refine (C2.out _ (HA.out.below B1 (Nat.le_refl _))).mono ?_
    rintro e w2 ⟨⟨v2, rfl, V2⟩, B2⟩
    go_wp2_with fail
    refine (same11_true _ _ _ R1 (V1.below B2 (Nat.le_refl _)) V2 (by omega)).mono ?_
    rintro e w3 ⟨rfl, B3⟩
    go_wp2_with (first
      | (go_at_call 18; refine (num_any _ _).mono ?_; rintro r w' ⟨rfl, rfl⟩)
      | (go_at_call 14; refine (works11 _).mono ?_; rintro e w4 ⟨rfl, B4⟩))
    go_ret
    exact ⟨rfl, below_then (below_then (below_then B1 B2) B3) B4⟩

set_option maxHeartbeats 1000000 in
theorem law_SoftCompares (w : World) (va : Value) (A : List Int) (vb : Value) (B : List Int) (w0 : IntsIn .i64 w va A) (w1 : IntsIn .u8 w vb B) :
    Calls Try.prog 7 #[va, vb] w fun e w' => e = .returned (.bool true) ∧ Below w.heap.size w w' := by
  obtain ⟨hva, hl, _⟩ := w0
  obtain ⟨hvb, hlb, hwf⟩ := w1
  have HA := hid hva
  have HB := hid hvb
  have C1 := hid (fun w h h' => compare_any w va vb A B h h' hl hlb hwf)
  have C2 := hid (fun w h h' => refCompare_any w va vb A B h h' hl hlb hwf)
  have C3 := hid (fun w h => least_any w va A h hl)
  have C4 := hid (fun w h => refLeast_any w va A h hl)
  clear hwf
  generalize Soft.cmpR A B = R at *
  obtain ⟨R1, R2, R3⟩ := R
  generalize Soft.leastR A = S at *
  obtain ⟨S1, S2⟩ := S
  dsimp only at C1 C2 C3 C4
  have h1 : ((R1 : Int) == R1) = true := by simp
  have h2 : ((R2 : Int) == R2) = true := by simp
  have h3 : ((R3 : Int) == R3) = true := by simp
  have h4 : ((S1 : Int) == S1) = true := by simp
  have h5 : ((S2 : Int) == S2) = true := by simp
  obtain ⟨a, c, rfl, _⟩ := hva
  obtain ⟨b, d, rfl, _⟩ := hvb
  rw [List.length_map] at HA C1 C2 C3 C4 ⊢
  rw [List.length_map] at HB C1 C2 ⊢
  by_cases h : 500 < A.length
  · have hd : decide (500 < (A.length : Int)) = true := by simp; omega
    go_enter Try.func7, Try.ntmps7
    go_wp2_with (go_at_call 14; refine (works11 _).mono ?_; rintro e w3 ⟨rfl, B3⟩)
    go_ret
    exact ⟨rfl, B3⟩
  have hd : decide (500 < (A.length : Int)) = false := by simp; omega
  by_cases h' : 500 < B.length
  · have hd' : decide (500 < (B.length : Int)) = true := by simp; omega
    go_enter Try.func7, Try.ntmps7
    go_wp2_with (go_at_call 14; refine (works11 _).mono ?_; rintro e w3 ⟨rfl, B3⟩)
    go_ret
    exact ⟨rfl, B3⟩
  have hd' : decide (500 < (B.length : Int)) = false := by simp; omega
  go_enter Try.func7, Try.ntmps7
  go_wp2_with fail
  refine (C1.out _ HA.out HB.out).mono ?_
  rintro e w1 ⟨rfl, B1⟩
  go_wp2_with fail
  refine (C2.out _ (HA.out.below B1 (Nat.le_refl _)) (HB.out.below B1 (Nat.le_refl _))).mono ?_
  rintro e w2 ⟨rfl, B2⟩
  have B12 := below_then B1 B2
  go_wp2_with fail
  refine (C3.out _ (HA.out.below B12 (Nat.le_refl _))).mono ?_
  rintro e w3 ⟨rfl, B3⟩
  have B13 := below_then B12 B3
  go_wp2_with fail
  refine (C4.out _ (HA.out.below B13 (Nat.le_refl _))).mono ?_
  rintro e w4 ⟨rfl, B4⟩
  go_wp2_with (first
    | (go_at_call 18; refine (num_any _ _).mono ?_; rintro r w' ⟨rfl, rfl⟩)
    | (go_at_call 14; refine (works11 _).mono ?_; rintro e w5 ⟨rfl, B5⟩))
  go_ret
  exact ⟨rfl, below_then (below_then B13 B4) B5⟩

set_option maxHeartbeats 1000000 in
theorem law_SoftHards (w : World) (va : Value) (A : List Int) (vb : Value) (B : List Int) (m : Int) (w0 : IntsIn .i64 w va A) (w1 : IntsIn .u8 w vb B) (w2 : (Lit.int .i64 m).wf = true) :
    Calls Try.prog 6 #[va, vb, .int .i64 m] w fun e w' => e = .returned (.bool true) ∧ Below w.heap.size w w' := by
  obtain ⟨hva, hl, _⟩ := w0
  obtain ⟨hvb, hlb, hwf⟩ := w1
  clear w2
  have HA := hid hva
  have HB := hid hvb
  by_cases h : 500 < A.length
  · obtain ⟨a, c, rfl, _⟩ := hva
    obtain ⟨b, d, rfl, _⟩ := hvb
    rw [List.length_map, List.length_map]
    clear hwf
    have hd : decide (500 < (A.length : Int)) = true := by simp; omega
    go_enter Try.func6, Try.ntmps6
    go_wp2_with (go_at_call 14; refine (works11 _).mono ?_; rintro e w3 ⟨rfl, B3⟩)
    go_ret
    exact ⟨rfl, B3⟩
  have hd : decide (500 < (A.length : Int)) = false := by simp; omega
  by_cases h' : 500 < B.length
  · obtain ⟨a, c, rfl, _⟩ := hva
    obtain ⟨b, d, rfl, _⟩ := hvb
    rw [List.length_map, List.length_map]
    clear hwf
    have hd' : decide (500 < (B.length : Int)) = true := by simp; omega
    go_enter Try.func6, Try.ntmps6
    go_wp2_with (go_at_call 14; refine (works11 _).mono ?_; rintro e w3 ⟨rfl, B3⟩)
    go_ret
    exact ⟨rfl, B3⟩
  have hd' : decide (500 < (B.length : Int)) = false := by simp; omega
  have C1 := hid (fun w h => hard_any w va A h (by omega))
  have C2 := hid (fun w h => refHard_any w va A h (by omega))
  have C3 := hid (fun w h => ideal_any w vb B m h (by omega) hwf)
  have C4 := hid (fun w h => refIdeal_any w vb B m h (by omega) hwf)
  have hR := Soft.idlR_len B m
  clear hwf
  generalize Soft.hardR A = R at *
  obtain ⟨R1, R2⟩ := R
  generalize Soft.idlR B m = S at *
  obtain ⟨S1, S2⟩ := S
  dsimp only at C1 C2 C3 C4 hR
  have h1 : ((R2 : Int) == R2) = true := by simp
  have h2 : ((S2 : Int) == S2) = true := by simp
  obtain ⟨a, c, rfl, _⟩ := hva
  obtain ⟨b, d, rfl, _⟩ := hvb
  rw [List.length_map] at HA C1 C2 ⊢
  rw [List.length_map] at HB C3 C4 ⊢
  go_enter Try.func6, Try.ntmps6
  go_wp2_with fail
  refine (C1.out _ HA.out).mono ?_
  rintro e w1 ⟨⟨v1, rfl, V1⟩, B1⟩
  go_wp2_with fail
  refine (C2.out _ (HA.out.below B1 (Nat.le_refl _))).mono ?_
  rintro e w2 ⟨⟨v2, rfl, V2⟩, B2⟩
  replace V1 := V1.below B2 (Nat.le_refl _)
  have B12 := below_then B1 B2
  clear B1 B2
  go_wp2_with fail
  refine (C3.out _ (HB.out.below B12 (Nat.le_refl _))).mono ?_
  rintro e w3 ⟨⟨v3, rfl, V3⟩, B3⟩
  replace V1 := V1.below B3 (Nat.le_refl _)
  replace V2 := V2.below B3 (Nat.le_refl _)
  have B13 := below_then B12 B3
  clear B12 B3
  go_wp2_with fail
  refine (C4.out _ (HB.out.below B13 (Nat.le_refl _))).mono ?_
  rintro e w4 ⟨⟨v4, rfl, V4⟩, B4⟩
  replace V1 := V1.below B4 (Nat.le_refl _)
  replace V2 := V2.below B4 (Nat.le_refl _)
  replace V3 := V3.below B4 (Nat.le_refl _)
  have B14 := below_then B13 B4
  clear B13 B4
  have hc1 := run_bstr (P := Try.prog) w4 38 9 5 Try.underlying38 Try.underlying5 Try.underlying9 v1 R1 V1
  have hc2 := run_bstr (P := Try.prog) w4 38 9 5 Try.underlying38 Try.underlying5 Try.underlying9 v2 R1 V2
  generalize strOfNums R1 = s at hc1 hc2
  clear V1 V2
  go_wp2_with (first
    | (go_at_call 18; refine (num_any _ _).mono ?_; rintro r w' ⟨rfl, rfl⟩)
    | (go_at_call 17; refine (same11_true _ _ _ S1 V3 V4 (by omega)).mono ?_; rintro e w5 ⟨rfl, B5⟩)
    | (go_at_call 14; refine (works11 _).mono ?_; rintro e w6 ⟨rfl, B6⟩))
  go_ret
  exact ⟨rfl, below_then (below_then B14 B5) B6⟩
end Go.Proofs.Ytmbjcpppbgapbaa

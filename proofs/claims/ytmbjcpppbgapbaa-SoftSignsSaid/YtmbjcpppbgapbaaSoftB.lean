/- soft: Sum, Scale: their contracts. -/
import Derived.Test.YtmbjcpppbgapbaaSoftA
namespace Go.Proofs.Ytmbjcpppbgapbaa
open Go.RowKit Go.Shelf
set_option linter.unusedVariables false
theorem arg_true (w : World) : Calls Try.prog 34 #[.bool true] w fun e w' => e = .returned (.int .i64 0) ∧ w = w' := arg_any true w
theorem arg_false (w : World) : Calls Try.prog 34 #[.bool false] w fun e w' => e = .returned (.int .i64 2) ∧ w = w' := arg_any false w
theorem two_boxes (w : World) (a b : Obj) : Below w.heap.size w ((w.alloc a).alloc b) := ((Below.refl _ _).alloc (Nat.le_refl _) _).alloc (by simp) _
theorem three_boxes (w : World) (a b c : Obj) : Below w.heap.size w (((w.alloc a).alloc b).alloc c) := (two_boxes w a b).alloc (by simp; omega) _
namespace Soft
theorem sumR_err {A B : List Int} (h : bad A = true ∨ bad B = true ∨ A.length ≠ B.length) : sumR A B = ([], 2) := if_pos h
theorem sumR_ok {A B : List Int} (h1 : bad A = false) (h2 : bad B = false) (h3 : A.length = B.length) : sumR A B = (tab (sumG A B) A.length, 0) := if_neg (by simp [h1, h2, h3])
theorem sclR_err {A : List Int} {p q : Int} (h : bad A = true ∨ p < 0 ∨ 1073741824 < p ∨ q < 1 ∨ 1073741824 < q) : sclR A p q = ([], 2) := if_pos h
theorem sclR_ok {A : List Int} {p q : Int} (h1 : bad A = false) (h2 : 0 ≤ p) (h3 : p ≤ 1073741824) (h4 : 1 ≤ q) (h5 : q ≤ 1073741824) : sclR A p q = (tab (sclG A p q) A.length, 0) := if_neg (by simp [h1]; omega)
theorem hardR_err {A : List Int} (h : bad A = true) : hardR A = ([], 2) := if_pos h
theorem hardR_ok {A : List Int} (h1 : bad A = false) : hardR A = (tab (hardG A) A.length, 0) := if_neg (by simp [h1])
end Soft
set_option maxHeartbeats 1000000 in
theorem sum_any (w : World) (va vb : Value) (A B : List Int) (hva : Vw w va (A.map (Value.int .i64))) (hvb : Vw w vb (B.map (Value.int .i64))) (hA : A.length ≤ 17592186044415) (hB : B.length ≤ 9223372036854775807) :
    Calls Try.prog 15 #[va, vb] w fun e w' => (∃ v', e = .returned (.tuple #[v', .int .i64 (Soft.sumR A B).2]) ∧ Vw w' v' ((Soft.sumR A B).1.map (Value.int .i64))) ∧ Below w.heap.size w w' := by
  have VA := hid (fun w h => valid_any w va A h (by omega))
  have VB := hid (fun w h => valid_any w vb B h hB)
  have HA := hid hva
  have HB := hid hvb
  obtain ⟨aa, ca, rfl, _⟩ := hva
  obtain ⟨ab, cb, rfl, _⟩ := hvb
  rw [List.length_map] at VA HA ⊢
  rw [List.length_map] at VB HB ⊢
  cases hbA : Soft.bad A with
  | true =>
    rw [Soft.sumR_err (.inl hbA)]
    rw [hbA] at VA
    clear hbA
    go_enter Try.func15, Try.ntmps15
    go_wp2_with fail
    refine (VA.out _ (HA.out.below (two_boxes w _ _) (Nat.le_refl _))).mono ?_
    rintro e w1 ⟨rfl, hB1⟩
    have f1 : w1.cell? ⟨w.heap.size, 0, none⟩ = some (.slice aa A.length ca) := (hB1.cell (p := ⟨w.heap.size, 0, none⟩) (by simp; omega)).trans (by go_simp)
    have f2 : w1.cell? ⟨w.heap.size + 1, 0, none⟩ = some (.slice ab B.length cb) := (hB1.cell (p := ⟨w.heap.size + 1, 0, none⟩) (by simp)).trans (by go_simp)
    have hs1 : w.heap.size + 2 ≤ w1.heap.size := by have := hB1.size; simpa using this
    have hW1 : Below w.heap.size w w1 := (two_boxes w _ _).trans (hB1.mono (by simp; omega))
    clear hB1
    go_wp2_with (first
      | (go_at_call 34; refine (arg_false _).mono ?_; rintro e w' ⟨rfl, rfl⟩)
      | (go_at_call 35; refine (imapped_err _ _ _ _ (by omega)).mono ?_; rintro e w' ⟨rfl, rfl⟩))
    go_ret2
    exact ⟨⟨_, rfl, Vw.nil _ _ _⟩, hW1⟩
  | false =>
    rw [hbA] at VA
    cases hbB : Soft.bad B with
    | true =>
      rw [Soft.sumR_err (.inr (.inl hbB))]
      rw [hbB] at VB
      clear hbA hbB
      go_enter Try.func15, Try.ntmps15
      go_wp2_with fail
      refine (VA.out _ (HA.out.below (two_boxes w _ _) (Nat.le_refl _))).mono ?_
      rintro e w1 ⟨rfl, hB1⟩
      have f1 : w1.cell? ⟨w.heap.size, 0, none⟩ = some (.slice aa A.length ca) := (hB1.cell (p := ⟨w.heap.size, 0, none⟩) (by simp; omega)).trans (by go_simp)
      have f2 : w1.cell? ⟨w.heap.size + 1, 0, none⟩ = some (.slice ab B.length cb) := (hB1.cell (p := ⟨w.heap.size + 1, 0, none⟩) (by simp)).trans (by go_simp)
      have hs1 : w.heap.size + 2 ≤ w1.heap.size := by have := hB1.size; simpa using this
      have hW1 : Below w.heap.size w w1 := (two_boxes w _ _).trans (hB1.mono (by simp; omega))
      clear hB1
      go_wp2_with fail
      refine (VB.out _ (HB.out.below hW1 (Nat.le_refl _))).mono ?_
      rintro e w2 ⟨rfl, hB2⟩
      have f3 : w2.cell? ⟨w.heap.size, 0, none⟩ = some (.slice aa A.length ca) := (hB2.cell (p := ⟨w.heap.size, 0, none⟩) (by dsimp only; omega)).trans f1
      have f4 : w2.cell? ⟨w.heap.size + 1, 0, none⟩ = some (.slice ab B.length cb) := (hB2.cell (p := ⟨w.heap.size + 1, 0, none⟩) (by dsimp only; omega)).trans f2
      have hs2 : w.heap.size + 2 ≤ w2.heap.size := by have := hB2.size; omega
      have hW2 : Below w.heap.size w w2 := hW1.trans (hB2.mono (by omega))
      clear hB2 f1 f2 hs1 hW1
      go_wp2_with (first
        | (go_at_call 34; refine (arg_false _).mono ?_; rintro e w' ⟨rfl, rfl⟩)
        | (go_at_call 35; refine (imapped_err _ _ _ _ (by omega)).mono ?_; rintro e w' ⟨rfl, rfl⟩))
      go_ret2
      exact ⟨⟨_, rfl, Vw.nil _ _ _⟩, hW2⟩
    | false =>
      rw [hbB] at VB
      by_cases hl : A.length = B.length
      · rw [Soft.sumR_ok hbA hbB hl]
        have HL := hid hl
        have hle : ((A.length : Int) == (B.length : Int)) = true := by simp [hl]
        clear hl hbA hbB
        go_enter Try.func15, Try.ntmps15
        go_wp2_with fail
        refine (VA.out _ (HA.out.below (two_boxes w _ _) (Nat.le_refl _))).mono ?_
        rintro e w1 ⟨rfl, hB1⟩
        have f1 : w1.cell? ⟨w.heap.size, 0, none⟩ = some (.slice aa A.length ca) := (hB1.cell (p := ⟨w.heap.size, 0, none⟩) (by simp; omega)).trans (by go_simp)
        have f2 : w1.cell? ⟨w.heap.size + 1, 0, none⟩ = some (.slice ab B.length cb) := (hB1.cell (p := ⟨w.heap.size + 1, 0, none⟩) (by simp)).trans (by go_simp)
        have hs1 : w.heap.size + 2 ≤ w1.heap.size := by have := hB1.size; simpa using this
        have hW1 : Below w.heap.size w w1 := (two_boxes w _ _).trans (hB1.mono (by simp; omega))
        clear hB1
        go_wp2_with fail
        refine (VB.out _ (HB.out.below hW1 (Nat.le_refl _))).mono ?_
        rintro e w2 ⟨rfl, hB2⟩
        have f3 : w2.cell? ⟨w.heap.size, 0, none⟩ = some (.slice aa A.length ca) := (hB2.cell (p := ⟨w.heap.size, 0, none⟩) (by dsimp only; omega)).trans f1
        have f4 : w2.cell? ⟨w.heap.size + 1, 0, none⟩ = some (.slice ab B.length cb) := (hB2.cell (p := ⟨w.heap.size + 1, 0, none⟩) (by dsimp only; omega)).trans f2
        have hs2 : w.heap.size + 2 ≤ w2.heap.size := by have := hB2.size; omega
        have hW2 : Below w.heap.size w w2 := hW1.trans (hB2.mono (by omega))
        clear hB2 f1 f2 hs1 hW1
        have HP := hid (show ∀ k, k < A.length → ∀ W, Below w2.heap.size w2 W → Calls Try.prog 36 (#[.int .i64 k] ++ #[.pointer (some ⟨w.heap.size, 0, none⟩), .pointer (some ⟨w.heap.size + 1, 0, none⟩)]) W (fun e w' => e = .returned (.int .i64 (Soft.sumG A B k)) ∧ Below W.heap.size W w') from fun k hk W hW => sum1_any A B HL.out k hk (by omega) _ _ w.heap.size (w.heap.size + 1) W ((hW.cell (p := ⟨w.heap.size, 0, none⟩) (by dsimp only; omega)).trans f3) ((hW.cell (p := ⟨w.heap.size + 1, 0, none⟩) (by dsimp only; omega)).trans f4) (HA.out.below (hW2.trans (hW.mono (by omega))) (Nat.le_refl _)) (HB.out.below (hW2.trans (hW.mono (by omega))) (Nat.le_refl _)))
        go_wp2_with (first
          | (go_at_call 34; refine (arg_true _).mono ?_; rintro e w' ⟨rfl, rfl⟩)
          | (go_at_call 35; refine (imapped_ok _ A.length 36 #[.pointer (some ⟨w.heap.size, 0, none⟩), .pointer (some ⟨w.heap.size + 1, 0, none⟩)] (Soft.sumG A B) hA (enters_of Try.func36 (by kernel_rfl) rfl) HP.out).mono ?_; rintro e w3 ⟨⟨v', rfl, hv'⟩, hB3⟩))
        go_ret2
        exact ⟨⟨_, rfl, hv'⟩, hW2.trans (hB3.mono (by omega))⟩
      · rw [Soft.sumR_err (.inr (.inr hl))]
        have hle : ((A.length : Int) == (B.length : Int)) = false := by simp; omega
        clear hl hbA hbB
        go_enter Try.func15, Try.ntmps15
        go_wp2_with fail
        refine (VA.out _ (HA.out.below (two_boxes w _ _) (Nat.le_refl _))).mono ?_
        rintro e w1 ⟨rfl, hB1⟩
        have f1 : w1.cell? ⟨w.heap.size, 0, none⟩ = some (.slice aa A.length ca) := (hB1.cell (p := ⟨w.heap.size, 0, none⟩) (by simp; omega)).trans (by go_simp)
        have f2 : w1.cell? ⟨w.heap.size + 1, 0, none⟩ = some (.slice ab B.length cb) := (hB1.cell (p := ⟨w.heap.size + 1, 0, none⟩) (by simp)).trans (by go_simp)
        have hs1 : w.heap.size + 2 ≤ w1.heap.size := by have := hB1.size; simpa using this
        have hW1 : Below w.heap.size w w1 := (two_boxes w _ _).trans (hB1.mono (by simp; omega))
        clear hB1
        go_wp2_with fail
        refine (VB.out _ (HB.out.below hW1 (Nat.le_refl _))).mono ?_
        rintro e w2 ⟨rfl, hB2⟩
        have f3 : w2.cell? ⟨w.heap.size, 0, none⟩ = some (.slice aa A.length ca) := (hB2.cell (p := ⟨w.heap.size, 0, none⟩) (by dsimp only; omega)).trans f1
        have f4 : w2.cell? ⟨w.heap.size + 1, 0, none⟩ = some (.slice ab B.length cb) := (hB2.cell (p := ⟨w.heap.size + 1, 0, none⟩) (by dsimp only; omega)).trans f2
        have hs2 : w.heap.size + 2 ≤ w2.heap.size := by have := hB2.size; omega
        have hW2 : Below w.heap.size w w2 := hW1.trans (hB2.mono (by omega))
        clear hB2 f1 f2 hs1 hW1
        go_wp2_with (first
          | (go_at_call 34; refine (arg_false _).mono ?_; rintro e w' ⟨rfl, rfl⟩)
          | (go_at_call 35; refine (imapped_err _ _ _ _ (by omega)).mono ?_; rintro e w' ⟨rfl, rfl⟩))
        go_ret2
        exact ⟨⟨_, rfl, Vw.nil _ _ _⟩, hW2⟩
end Go.Proofs.Ytmbjcpppbgapbaa

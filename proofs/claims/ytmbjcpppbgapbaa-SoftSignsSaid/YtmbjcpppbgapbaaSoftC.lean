/- soft: Scale, Hard, Ideal: their contracts. -/
import Derived.Test.YtmbjcpppbgapbaaSoftB
import Derived.Deep.RegionHeld3
namespace Go.Proofs.Ytmbjcpppbgapbaa
open Go.RowKit Go.Shelf
set_option linter.unusedVariables false
set_option maxHeartbeats 1000000 in
theorem scale_any (w : World) (va : Value) (A : List Int) (p q : Int) (hva : Vw w va (A.map (Value.int .i64))) (hA : A.length ≤ 17592186044415) :
    Calls Try.prog 21 #[va, .int .i64 p, .int .i64 q] w fun e w' => (∃ v', e = .returned (.tuple #[v', .int .i64 (Soft.sclR A p q).2]) ∧ Vw w' v' ((Soft.sclR A p q).1.map (Value.int .i64))) ∧ Below w.heap.size w w' := by
  have VA := hid (fun w h => valid_any w va A h (by omega))
  have HA := hid hva
  obtain ⟨aa, ca, rfl, _⟩ := hva
  rw [List.length_map] at VA HA ⊢
  cases hbA : Soft.bad A with
  | true =>
    rw [Soft.sclR_err (.inl hbA)]
    rw [hbA] at VA
    clear hbA
    go_enter Try.func21, Try.ntmps21
    go_wp2_with fail
    refine (VA.out _ (HA.out.below (three_boxes w _ _ _) (Nat.le_refl _))).mono ?_
    rintro e w1 ⟨rfl, hB1⟩
    have f1 : w1.cell? ⟨w.heap.size, 0, none⟩ = some (.slice aa A.length ca) := (hB1.cell (p := ⟨w.heap.size, 0, none⟩) (by simp; omega)).trans (by go_simp)
    have f2 : w1.cell? ⟨w.heap.size + 1, 0, none⟩ = some (.int .i64 p) := (hB1.cell (p := ⟨w.heap.size + 1, 0, none⟩) (by simp)).trans (by go_simp)
    have f3 : w1.cell? ⟨w.heap.size + 1 + 1, 0, none⟩ = some (.int .i64 q) := (hB1.cell (p := ⟨w.heap.size + 1 + 1, 0, none⟩) (by simp)).trans (by go_simp)
    have hs1 : w.heap.size + 3 ≤ w1.heap.size := by have := hB1.size; simpa using this
    have hW1 : Below w.heap.size w w1 := (three_boxes w _ _ _).trans (hB1.mono (by simp; omega))
    clear hB1
    go_wp2_with (first
      | (go_at_call 34; refine (arg_false _).mono ?_; rintro e w' ⟨rfl, rfl⟩)
      | (go_at_call 35; refine (imapped_err _ _ _ _ (by omega)).mono ?_; rintro e w' ⟨rfl, rfl⟩))
    go_ret2
    exact ⟨⟨_, rfl, Vw.nil _ _ _⟩, hW1⟩
  | false =>
    rw [hbA] at VA
    by_cases h1 : p < 0
    · rw [Soft.sclR_err (.inr (.inl h1))]
      clear hbA
      go_enter Try.func21, Try.ntmps21
      go_wp2_with fail
      refine (VA.out _ (HA.out.below (three_boxes w _ _ _) (Nat.le_refl _))).mono ?_
      rintro e w1 ⟨rfl, hB1⟩
      have f1 : w1.cell? ⟨w.heap.size, 0, none⟩ = some (.slice aa A.length ca) := (hB1.cell (p := ⟨w.heap.size, 0, none⟩) (by simp; omega)).trans (by go_simp)
      have f2 : w1.cell? ⟨w.heap.size + 1, 0, none⟩ = some (.int .i64 p) := (hB1.cell (p := ⟨w.heap.size + 1, 0, none⟩) (by simp)).trans (by go_simp)
      have f3 : w1.cell? ⟨w.heap.size + 1 + 1, 0, none⟩ = some (.int .i64 q) := (hB1.cell (p := ⟨w.heap.size + 1 + 1, 0, none⟩) (by simp)).trans (by go_simp)
      have hs1 : w.heap.size + 3 ≤ w1.heap.size := by have := hB1.size; simpa using this
      have hW1 : Below w.heap.size w w1 := (three_boxes w _ _ _).trans (hB1.mono (by simp; omega))
      clear hB1
      go_wp2_with (first
        | (go_at_call 34; refine (arg_false _).mono ?_; rintro e w' ⟨rfl, rfl⟩)
        | (go_at_call 35; refine (imapped_err _ _ _ _ (by omega)).mono ?_; rintro e w' ⟨rfl, rfl⟩))
      go_ret2
      exact ⟨⟨_, rfl, Vw.nil _ _ _⟩, hW1⟩
    by_cases h2 : 1073741824 < p
    · rw [Soft.sclR_err (.inr (.inr (.inl h2)))]
      clear hbA
      go_enter Try.func21, Try.ntmps21
      go_wp2_with fail
      refine (VA.out _ (HA.out.below (three_boxes w _ _ _) (Nat.le_refl _))).mono ?_
      rintro e w1 ⟨rfl, hB1⟩
      have f1 : w1.cell? ⟨w.heap.size, 0, none⟩ = some (.slice aa A.length ca) := (hB1.cell (p := ⟨w.heap.size, 0, none⟩) (by simp; omega)).trans (by go_simp)
      have f2 : w1.cell? ⟨w.heap.size + 1, 0, none⟩ = some (.int .i64 p) := (hB1.cell (p := ⟨w.heap.size + 1, 0, none⟩) (by simp)).trans (by go_simp)
      have f3 : w1.cell? ⟨w.heap.size + 1 + 1, 0, none⟩ = some (.int .i64 q) := (hB1.cell (p := ⟨w.heap.size + 1 + 1, 0, none⟩) (by simp)).trans (by go_simp)
      have hs1 : w.heap.size + 3 ≤ w1.heap.size := by have := hB1.size; simpa using this
      have hW1 : Below w.heap.size w w1 := (three_boxes w _ _ _).trans (hB1.mono (by simp; omega))
      clear hB1
      go_wp2_with (first
        | (go_at_call 34; refine (arg_false _).mono ?_; rintro e w' ⟨rfl, rfl⟩)
        | (go_at_call 35; refine (imapped_err _ _ _ _ (by omega)).mono ?_; rintro e w' ⟨rfl, rfl⟩))
      go_ret2
      exact ⟨⟨_, rfl, Vw.nil _ _ _⟩, hW1⟩
    by_cases h3 : q < 1
    · rw [Soft.sclR_err (.inr (.inr (.inr (.inl h3))))]
      clear hbA
      go_enter Try.func21, Try.ntmps21
      go_wp2_with fail
      refine (VA.out _ (HA.out.below (three_boxes w _ _ _) (Nat.le_refl _))).mono ?_
      rintro e w1 ⟨rfl, hB1⟩
      have f1 : w1.cell? ⟨w.heap.size, 0, none⟩ = some (.slice aa A.length ca) := (hB1.cell (p := ⟨w.heap.size, 0, none⟩) (by simp; omega)).trans (by go_simp)
      have f2 : w1.cell? ⟨w.heap.size + 1, 0, none⟩ = some (.int .i64 p) := (hB1.cell (p := ⟨w.heap.size + 1, 0, none⟩) (by simp)).trans (by go_simp)
      have f3 : w1.cell? ⟨w.heap.size + 1 + 1, 0, none⟩ = some (.int .i64 q) := (hB1.cell (p := ⟨w.heap.size + 1 + 1, 0, none⟩) (by simp)).trans (by go_simp)
      have hs1 : w.heap.size + 3 ≤ w1.heap.size := by have := hB1.size; simpa using this
      have hW1 : Below w.heap.size w w1 := (three_boxes w _ _ _).trans (hB1.mono (by simp; omega))
      clear hB1
      go_wp2_with (first
        | (go_at_call 34; refine (arg_false _).mono ?_; rintro e w' ⟨rfl, rfl⟩)
        | (go_at_call 35; refine (imapped_err _ _ _ _ (by omega)).mono ?_; rintro e w' ⟨rfl, rfl⟩))
      go_ret2
      exact ⟨⟨_, rfl, Vw.nil _ _ _⟩, hW1⟩
    by_cases h4 : 1073741824 < q
    · rw [Soft.sclR_err (.inr (.inr (.inr (.inr h4))))]
      clear hbA
      have hd : decide (q ≤ 1073741824) = false := by simp; omega
      go_enter Try.func21, Try.ntmps21
      go_wp2_with fail
      refine (VA.out _ (HA.out.below (three_boxes w _ _ _) (Nat.le_refl _))).mono ?_
      rintro e w1 ⟨rfl, hB1⟩
      have f1 : w1.cell? ⟨w.heap.size, 0, none⟩ = some (.slice aa A.length ca) := (hB1.cell (p := ⟨w.heap.size, 0, none⟩) (by simp; omega)).trans (by go_simp)
      have f2 : w1.cell? ⟨w.heap.size + 1, 0, none⟩ = some (.int .i64 p) := (hB1.cell (p := ⟨w.heap.size + 1, 0, none⟩) (by simp)).trans (by go_simp)
      have f3 : w1.cell? ⟨w.heap.size + 1 + 1, 0, none⟩ = some (.int .i64 q) := (hB1.cell (p := ⟨w.heap.size + 1 + 1, 0, none⟩) (by simp)).trans (by go_simp)
      have hs1 : w.heap.size + 3 ≤ w1.heap.size := by have := hB1.size; simpa using this
      have hW1 : Below w.heap.size w w1 := (three_boxes w _ _ _).trans (hB1.mono (by simp; omega))
      clear hB1
      go_wp2_with (first
        | (go_at_call 34; refine (arg_false _).mono ?_; rintro e w' ⟨rfl, rfl⟩)
        | (go_at_call 35; refine (imapped_err _ _ _ _ (by omega)).mono ?_; rintro e w' ⟨rfl, rfl⟩))
      go_ret2
      exact ⟨⟨_, rfl, Vw.nil _ _ _⟩, hW1⟩
    rw [Soft.sclR_ok hbA (by omega) (by omega) (by omega) (by omega)]
    have HbA := hid hbA
    have hd : decide (q ≤ 1073741824) = true := by simp; omega
    clear hbA
    go_enter Try.func21, Try.ntmps21
    go_wp2_with fail
    refine (VA.out _ (HA.out.below (three_boxes w _ _ _) (Nat.le_refl _))).mono ?_
    rintro e w1 ⟨rfl, hB1⟩
    have f1 : w1.cell? ⟨w.heap.size, 0, none⟩ = some (.slice aa A.length ca) := (hB1.cell (p := ⟨w.heap.size, 0, none⟩) (by simp; omega)).trans (by go_simp)
    have f2 : w1.cell? ⟨w.heap.size + 1, 0, none⟩ = some (.int .i64 p) := (hB1.cell (p := ⟨w.heap.size + 1, 0, none⟩) (by simp)).trans (by go_simp)
    have f3 : w1.cell? ⟨w.heap.size + 1 + 1, 0, none⟩ = some (.int .i64 q) := (hB1.cell (p := ⟨w.heap.size + 1 + 1, 0, none⟩) (by simp)).trans (by go_simp)
    have hs1 : w.heap.size + 3 ≤ w1.heap.size := by have := hB1.size; simpa using this
    have hW1 : Below w.heap.size w w1 := (three_boxes w _ _ _).trans (hB1.mono (by simp; omega))
    clear hB1
    have HP := hid (show ∀ k, k < A.length → ∀ W, Below w1.heap.size w1 W → Calls Try.prog 38 (#[.int .i64 k] ++ #[.pointer (some ⟨w.heap.size, 0, none⟩), .pointer (some ⟨w.heap.size + 1, 0, none⟩), .pointer (some ⟨w.heap.size + 1 + 1, 0, none⟩)]) W (fun e w' => e = .returned (.int .i64 (Soft.sclG A p q k)) ∧ Below W.heap.size W w') from fun k hk W hW => scale1_any A p q (by omega) (by omega) (by omega) (by omega) HbA.out k hk (by omega) _ w.heap.size (w.heap.size + 1) (w.heap.size + 1 + 1) W ((hW.cell (p := ⟨w.heap.size, 0, none⟩) (by dsimp only; omega)).trans f1) ((hW.cell (p := ⟨w.heap.size + 1, 0, none⟩) (by dsimp only; omega)).trans f2) ((hW.cell (p := ⟨w.heap.size + 1 + 1, 0, none⟩) (by dsimp only; omega)).trans f3) (HA.out.below (hW1.trans (hW.mono (by omega))) (Nat.le_refl _)))
    go_wp2_with (first
      | (go_at_call 34; refine (arg_true _).mono ?_; rintro e w' ⟨rfl, rfl⟩)
      | (go_at_call 35; refine (imapped_ok _ A.length 38 #[.pointer (some ⟨w.heap.size, 0, none⟩), .pointer (some ⟨w.heap.size + 1, 0, none⟩), .pointer (some ⟨w.heap.size + 1 + 1, 0, none⟩)] (Soft.sclG A p q) hA (enters_of Try.func38 (by kernel_rfl) rfl) HP.out).mono ?_; rintro e w3 ⟨⟨v', rfl, hv'⟩, hB3⟩))
    go_ret2
    exact ⟨⟨_, rfl, hv'⟩, hW1.trans (hB3.mono (by omega))⟩

set_option maxHeartbeats 1000000 in
theorem hard_any (w : World) (va : Value) (A : List Int) (hva : Vw w va (A.map (Value.int .i64))) (hA : A.length ≤ 17592186044415) :
    Calls Try.prog 23 #[va] w fun e w' => (∃ v', e = .returned (.tuple #[v', .int .i64 (Soft.hardR A).2]) ∧ Vw w' v' ((Soft.hardR A).1.map (Value.int .u8))) ∧ Below w.heap.size w w' := by
  have VA := hid (fun w h => valid_any w va A h (by omega))
  have HA := hid hva
  obtain ⟨aa, ca, rfl, _⟩ := hva
  rw [List.length_map] at VA HA ⊢
  have hS0 : (w.alloc (.cells #[.slice aa A.length ca] 26)).cell? ⟨w.heap.size, 0, none⟩ = some (.slice aa A.length ca) := by go_simp
  have hS1 : Below w.heap.size w (w.alloc (.cells #[.slice aa A.length ca] 26)) := below_alloc _ _
  have hS2 : w.heap.size + 1 ≤ (w.alloc (.cells #[.slice aa A.length ca] 26)).heap.size := by simp
  cases hbA : Soft.bad A with
  | true =>
    rw [Soft.hardR_err hbA]
    rw [hbA] at VA
    clear hbA
    go_enter Try.func23, Try.ntmps23
    go_wp2_with fail
    generalize w.alloc _ = W at hS0 hS1 hS2 ⊢
    go_region_held3 (fun w' => w'.cell? ⟨w.heap.size, 0, none⟩ = some (.slice aa A.length ca) ∧ Below w.heap.size w w' ∧ w.heap.size + 1 ≤ w'.heap.size)
      (first
        | exact ⟨hS0, hS1.trans ((Fr.drew (fun _ => False) W).below hS1.size (fun _ _ h => h)), hS2⟩
        | (go_split_ands; exact ⟨by assumption, by assumption, by assumption⟩)
        | (go_split_ands; exact ⟨(hB1.cell (p := ⟨w.heap.size, 0, none⟩) (by dsimp only; omega)).trans (by assumption), Below.trans (by assumption) (hB1.mono (by omega)), by have := hB1.size; omega⟩))
      (first
        | (go_at_call 19; go_split_ands; refine (VA.out _ ?_).mono ?_; (exact HA.out.below (by assumption) (Nat.le_refl _)); rintro e w1 ⟨rfl, hB1⟩)
        | (go_at_call 34; refine (arg_false _).mono ?_; rintro e w' ⟨rfl, rfl⟩)
        | (go_at_call 39; refine (bmapped_err _ _ _ _ (by omega)).mono ?_; rintro e w' ⟨rfl, rfl⟩))
    all_goals (go_split_ands; go_wp2; go_ret2; exact ⟨⟨_, rfl, Vw.nil _ _ _⟩, by assumption⟩)
  | false =>
    rw [Soft.hardR_ok hbA]
    rw [hbA] at VA
    clear hbA
    have HP := hid (fun w2 (f1 : w2.cell? ⟨w.heap.size, 0, none⟩ = some (.slice aa A.length ca)) (hW2 : Below w.heap.size w w2) (hs2 : w.heap.size + 1 ≤ w2.heap.size) => show ∀ k, k < A.length → ∀ W, Below w2.heap.size w2 W → Calls Try.prog 40 (#[.int .i64 k] ++ #[.pointer (some ⟨w.heap.size, 0, none⟩)]) W (fun e w' => e = .returned (.int .u8 (Soft.hardG A k)) ∧ Below W.heap.size W w') from fun k hk W hW => hard1_any A k hk (by omega) _ w.heap.size W ((hW.cell (p := ⟨w.heap.size, 0, none⟩) (by dsimp only; omega)).trans f1) (HA.out.below (hW2.trans (hW.mono (by omega))) (Nat.le_refl _)))
    go_enter Try.func23, Try.ntmps23
    go_wp2_with fail
    generalize w.alloc _ = W at hS0 hS1 hS2 ⊢
    go_region_held3 (fun w' => w'.cell? ⟨w.heap.size, 0, none⟩ = some (.slice aa A.length ca) ∧ Below w.heap.size w w' ∧ w.heap.size + 1 ≤ w'.heap.size)
      (first
        | exact ⟨hS0, hS1.trans ((Fr.drew (fun _ => False) W).below hS1.size (fun _ _ h => h)), hS2⟩
        | (go_split_ands; exact ⟨by assumption, by assumption, by assumption⟩)
        | (go_split_ands; exact ⟨(hB1.cell (p := ⟨w.heap.size, 0, none⟩) (by dsimp only; omega)).trans (by assumption), Below.trans (by assumption) (hB1.mono (by omega)), by have := hB1.size; omega⟩)
        | (go_split_ands; exact ⟨(hB3.cell (p := ⟨w.heap.size, 0, none⟩) (by dsimp only; omega)).trans (by assumption), Below.trans (by assumption) (hB3.mono (by omega)), by have := hB3.size; omega⟩))
      (first
        | (go_at_call 19; go_split_ands; refine (VA.out _ ?_).mono ?_; (exact HA.out.below (by assumption) (Nat.le_refl _)); rintro e w1 ⟨rfl, hB1⟩)
        | (go_at_call 34; refine (arg_true _).mono ?_; rintro e w' ⟨rfl, rfl⟩)
        | (go_at_call 39; go_split_ands; refine (bmapped_ok _ A.length 40 #[.pointer (some ⟨w.heap.size, 0, none⟩)] (Soft.hardG A) hA (enters_of Try.func40 (by kernel_rfl) rfl) ?_).mono ?_; (exact HP.out _ (by assumption) (by assumption) (by assumption)); rintro e w3 ⟨⟨v', rfl, hv'⟩, hB3⟩))
    all_goals (go_split_ands; go_wp2; go_ret2; exact ⟨⟨_, rfl, hv'⟩, by assumption⟩)
end Go.Proofs.Ytmbjcpppbgapbaa

/- soft.Ideal: its contract. -/
import Derived.Test.YtmbjcpppbgapbaaSoftS
import Derived.Test.YtmbjcpppbgapbaaSoftC
namespace Go.Proofs.Ytmbjcpppbgapbaa
open Go.RowKit Go.Shelf
set_option linter.unusedVariables false
theorem Calls.flip {P : Program} {f : FuncId} {args : Array Value} {w : World} {v : Value} (h : Calls P f args w fun e w' => e = .returned v ∧ w = w') : Calls P f args w fun e w' => e = .returned v ∧ w' = w := h.mono fun _ _ h => ⟨h.1, h.2.symm⟩
theorem keep2_drew {w W : World} {p q : Addr} {u v : Value} {n : Nat} (h : W.cell? p = some u ∧ W.cell? q = some v ∧ Below w.heap.size w W ∧ n ≤ W.heap.size) :
    W.drew.cell? p = some u ∧ W.drew.cell? q = some v ∧ Below w.heap.size w W.drew ∧ n ≤ W.drew.heap.size :=
  ⟨h.1, h.2.1, h.2.2.1.trans ((Fr.drew (fun _ => False) W).below h.2.2.1.size (fun _ _ h => h)), h.2.2.2⟩
theorem keep2_alloc {w W : World} {p q : Addr} {u v : Value} {n : Nat} (o : Obj) (h : W.cell? p = some u ∧ W.cell? q = some v ∧ Below w.heap.size w W ∧ n ≤ W.heap.size) :
    (W.alloc o).cell? p = some u ∧ (W.alloc o).cell? q = some v ∧ Below w.heap.size w (W.alloc o) ∧ n ≤ (W.alloc o).heap.size :=
  ⟨((Fr.alloc (fun _ => False) W o).cell (World.block_lt_of_cell? _ _ h.1) (fun h => h)).trans h.1, ((Fr.alloc (fun _ => False) W o).cell (World.block_lt_of_cell? _ _ h.2.1) (fun h => h)).trans h.2.1, h.2.2.1.alloc h.2.2.1.size o, by rw [World.size_alloc]; omega⟩
set_option maxHeartbeats 1000000 in
theorem ideal_any (w : World) (va : Value) (A : List Int) (m : Int) (hva : Vw w va (A.map (Value.int .u8))) (hA : A.length ≤ 17592186044415) (hwf : ∀ n ∈ A, (Lit.int .u8 n).wf = true) :
    Calls Try.prog 25 #[va, .int .i64 m] w fun e w' => (∃ v', e = .returned (.tuple #[v', .int .i64 (Soft.idlR A m).2]) ∧ Vw w' v' ((Soft.idlR A m).1.map (Value.int .i64))) ∧ Below w.heap.size w w' := by
  have VA := hid (fun w h => binary_any w va A h (by omega))
  have HA := hid hva
  obtain ⟨aa, ca, rfl, _⟩ := hva
  rw [List.length_map] at VA HA ⊢
  have hS0 : ((w.alloc (.cells #[.slice aa A.length ca] 38)).alloc (.cells #[.int .i64 m] 3)).cell? ⟨w.heap.size, 0, none⟩ = some (.slice aa A.length ca) ∧ ((w.alloc (.cells #[.slice aa A.length ca] 38)).alloc (.cells #[.int .i64 m] 3)).cell? ⟨w.heap.size + 1, 0, none⟩ = some (.int .i64 m) ∧ Below w.heap.size w ((w.alloc (.cells #[.slice aa A.length ca] 38)).alloc (.cells #[.int .i64 m] 3)) ∧ w.heap.size + 2 ≤ ((w.alloc (.cells #[.slice aa A.length ca] 38)).alloc (.cells #[.int .i64 m] 3)).heap.size :=
    ⟨by go_simp, by go_simp, two_boxes w _ _, by simp⟩
  by_cases h1 : m < 0
  · rw [Soft.idlR_arg (.inl h1)]
    have hd0 : decide (0 ≤ m) = false := by simp; omega
    cases hbB : Soft.bbad A with
    | true =>
      rw [hbB] at VA
      clear hbB
      go_enter Try.func25, Try.ntmps25
      go_wp2_with fail
      generalize World.alloc _ _ = W at hS0 ⊢
      obtain ⟨f1, f2, f3, f4⟩ := hS0
      have hBd : Below w.heap.size w W.drew := f3.trans ((Fr.drew (fun _ => False) W).below f3.size (fun _ _ h => h))
      refine wp_region_still_tail 9 (by kernel_rfl) (by kernel_rfl) ?_
      simp only [List.take_succ_cons, List.take_zero, List.drop_succ_cons, List.drop_zero]
      still_step
      still_step
      still_step
      still_step
      still_step
      still_step
      still_call (Calls.flip (arg_false _))
      still_step
      still_call (Calls.flip (VA.out _ (HA.out.below hBd (Nat.le_refl _))))
      refine wpStill_nil ?_
      change wpList _ _ _ _ _ W.drew
      have k4 := keep2_drew ⟨f1, f2, f3, f4⟩
      clear f1 f2 f3 f4 hBd
      generalize W.drew = W2 at k4 ⊢
      obtain ⟨f1, f2, hBd, f4⟩ := k4
      go_wp2_with fail
      refine (first2_any _ _ _).mono ?_
      rintro e w' ⟨rfl, rfl⟩
      have k5 := keep2_alloc (.cells #[.int .i64 2, .int .i64 3] 27) ⟨f1, f2, hBd, f4⟩
      clear f1 f2 hBd f4
      generalize W2.alloc _ = W3 at k5 ⊢
      obtain ⟨f1, f2, hBa, f4⟩ := k5
      go_wp2_with (go_at_call 35; refine (imapped_err _ _ _ _ (by omega)).mono ?_; rintro e w' ⟨rfl, rfl⟩)
      go_ret2
      exact ⟨⟨_, rfl, Vw.nil _ _ _⟩, hBa⟩
    | false =>
      rw [hbB] at VA
      clear hbB
      go_enter Try.func25, Try.ntmps25
      go_wp2_with fail
      generalize World.alloc _ _ = W at hS0 ⊢
      obtain ⟨f1, f2, f3, f4⟩ := hS0
      have hBd : Below w.heap.size w W.drew := f3.trans ((Fr.drew (fun _ => False) W).below f3.size (fun _ _ h => h))
      refine wp_region_still_tail 9 (by kernel_rfl) (by kernel_rfl) ?_
      simp only [List.take_succ_cons, List.take_zero, List.drop_succ_cons, List.drop_zero]
      still_step
      still_step
      still_step
      still_step
      still_step
      still_step
      still_call (Calls.flip (arg_false _))
      still_step
      still_call (Calls.flip (VA.out _ (HA.out.below hBd (Nat.le_refl _))))
      refine wpStill_nil ?_
      change wpList _ _ _ _ _ W.drew
      have k4 := keep2_drew ⟨f1, f2, f3, f4⟩
      clear f1 f2 f3 f4 hBd
      generalize W.drew = W2 at k4 ⊢
      obtain ⟨f1, f2, hBd, f4⟩ := k4
      go_wp2_with fail
      refine (first2_any _ _ _).mono ?_
      rintro e w' ⟨rfl, rfl⟩
      have k5 := keep2_alloc (.cells #[.int .i64 2, .int .i64 0] 27) ⟨f1, f2, hBd, f4⟩
      clear f1 f2 hBd f4
      generalize W2.alloc _ = W3 at k5 ⊢
      obtain ⟨f1, f2, hBa, f4⟩ := k5
      go_wp2_with (go_at_call 35; refine (imapped_err _ _ _ _ (by omega)).mono ?_; rintro e w' ⟨rfl, rfl⟩)
      go_ret2
      exact ⟨⟨_, rfl, Vw.nil _ _ _⟩, hBa⟩
  have hd0 : decide (0 ≤ m) = true := by simp; omega
  by_cases h2 : 127 < m
  · rw [Soft.idlR_arg (.inr h2)]
    have hd : decide (m ≤ 127) = false := by simp; omega
    cases hbB : Soft.bbad A with
    | true =>
      rw [hbB] at VA
      clear hbB
      go_enter Try.func25, Try.ntmps25
      go_wp2_with fail
      generalize World.alloc _ _ = W at hS0 ⊢
      obtain ⟨f1, f2, f3, f4⟩ := hS0
      have hBd : Below w.heap.size w W.drew := f3.trans ((Fr.drew (fun _ => False) W).below f3.size (fun _ _ h => h))
      refine wp_region_still_tail 9 (by kernel_rfl) (by kernel_rfl) ?_
      simp only [List.take_succ_cons, List.take_zero, List.drop_succ_cons, List.drop_zero]
      still_step
      still_step
      still_step
      still_step
      still_step
      still_step
      still_call (Calls.flip (arg_false _))
      still_step
      still_call (Calls.flip (VA.out _ (HA.out.below hBd (Nat.le_refl _))))
      refine wpStill_nil ?_
      change wpList _ _ _ _ _ W.drew
      have k4 := keep2_drew ⟨f1, f2, f3, f4⟩
      clear f1 f2 f3 f4 hBd
      generalize W.drew = W2 at k4 ⊢
      obtain ⟨f1, f2, hBd, f4⟩ := k4
      go_wp2_with fail
      refine (first2_any _ _ _).mono ?_
      rintro e w' ⟨rfl, rfl⟩
      have k5 := keep2_alloc (.cells #[.int .i64 2, .int .i64 3] 27) ⟨f1, f2, hBd, f4⟩
      clear f1 f2 hBd f4
      generalize W2.alloc _ = W3 at k5 ⊢
      obtain ⟨f1, f2, hBa, f4⟩ := k5
      go_wp2_with (go_at_call 35; refine (imapped_err _ _ _ _ (by omega)).mono ?_; rintro e w' ⟨rfl, rfl⟩)
      go_ret2
      exact ⟨⟨_, rfl, Vw.nil _ _ _⟩, hBa⟩
    | false =>
      rw [hbB] at VA
      clear hbB
      go_enter Try.func25, Try.ntmps25
      go_wp2_with fail
      generalize World.alloc _ _ = W at hS0 ⊢
      obtain ⟨f1, f2, f3, f4⟩ := hS0
      have hBd : Below w.heap.size w W.drew := f3.trans ((Fr.drew (fun _ => False) W).below f3.size (fun _ _ h => h))
      refine wp_region_still_tail 9 (by kernel_rfl) (by kernel_rfl) ?_
      simp only [List.take_succ_cons, List.take_zero, List.drop_succ_cons, List.drop_zero]
      still_step
      still_step
      still_step
      still_step
      still_step
      still_step
      still_call (Calls.flip (arg_false _))
      still_step
      still_call (Calls.flip (VA.out _ (HA.out.below hBd (Nat.le_refl _))))
      refine wpStill_nil ?_
      change wpList _ _ _ _ _ W.drew
      have k4 := keep2_drew ⟨f1, f2, f3, f4⟩
      clear f1 f2 f3 f4 hBd
      generalize W.drew = W2 at k4 ⊢
      obtain ⟨f1, f2, hBd, f4⟩ := k4
      go_wp2_with fail
      refine (first2_any _ _ _).mono ?_
      rintro e w' ⟨rfl, rfl⟩
      have k5 := keep2_alloc (.cells #[.int .i64 2, .int .i64 0] 27) ⟨f1, f2, hBd, f4⟩
      clear f1 f2 hBd f4
      generalize W2.alloc _ = W3 at k5 ⊢
      obtain ⟨f1, f2, hBa, f4⟩ := k5
      go_wp2_with (go_at_call 35; refine (imapped_err _ _ _ _ (by omega)).mono ?_; rintro e w' ⟨rfl, rfl⟩)
      go_ret2
      exact ⟨⟨_, rfl, Vw.nil _ _ _⟩, hBa⟩
  have hd : decide (m ≤ 127) = true := by simp; omega
  cases hbB : Soft.bbad A with
  | true =>
    rw [Soft.idlR_bit (by omega) (by omega) hbB]
    rw [hbB] at VA
    clear hbB
    go_enter Try.func25, Try.ntmps25
    go_wp2_with fail
    generalize World.alloc _ _ = W at hS0 ⊢
    obtain ⟨f1, f2, f3, f4⟩ := hS0
    have hBd : Below w.heap.size w W.drew := f3.trans ((Fr.drew (fun _ => False) W).below f3.size (fun _ _ h => h))
    refine wp_region_still_tail 9 (by kernel_rfl) (by kernel_rfl) ?_
    simp only [List.take_succ_cons, List.take_zero, List.drop_succ_cons, List.drop_zero]
    still_step
    still_step
    still_step
    still_step
    still_step
    still_step
    still_call (Calls.flip (arg_true _))
    still_step
    still_call (Calls.flip (VA.out _ (HA.out.below hBd (Nat.le_refl _))))
    refine wpStill_nil ?_
    change wpList _ _ _ _ _ W.drew
    have k4 := keep2_drew ⟨f1, f2, f3, f4⟩
    clear f1 f2 f3 f4 hBd
    generalize W.drew = W2 at k4 ⊢
    obtain ⟨f1, f2, hBd, f4⟩ := k4
    go_wp2_with fail
    refine (first2_any _ _ _).mono ?_
    rintro e w' ⟨rfl, rfl⟩
    have k5 := keep2_alloc (.cells #[.int .i64 0, .int .i64 3] 27) ⟨f1, f2, hBd, f4⟩
    clear f1 f2 hBd f4
    generalize W2.alloc _ = W3 at k5 ⊢
    obtain ⟨f1, f2, hBa, f4⟩ := k5
    go_wp2_with (go_at_call 35; refine (imapped_err _ _ _ _ (by omega)).mono ?_; rintro e w' ⟨rfl, rfl⟩)
    go_ret2
    exact ⟨⟨_, rfl, Vw.nil _ _ _⟩, hBa⟩
  | false =>
    rw [Soft.idlR_ok (by omega) (by omega) hbB]
    rw [hbB] at VA
    have HbB := hid hbB
    have HW := hid hwf
    clear hbB hwf
    have HP := hid (fun w2 (f1 : w2.cell? ⟨w.heap.size, 0, none⟩ = some (.slice aa A.length ca)) (f2 : w2.cell? ⟨w.heap.size + 1, 0, none⟩ = some (.int .i64 m)) (hW2 : Below w.heap.size w w2) (hs2 : w.heap.size + 2 ≤ w2.heap.size) => show ∀ k, k < A.length → ∀ W, Below w2.heap.size w2 W → Calls Try.prog 44 (#[.int .i64 k] ++ #[.pointer (some ⟨w.heap.size + 1, 0, none⟩), .pointer (some ⟨w.heap.size, 0, none⟩)]) W (fun e w' => e = .returned (.int .i64 (Soft.idlG A m k)) ∧ Below W.heap.size W w') from fun k hk W hW => ideal1_any A m (by omega) (by omega) HbB.out HW.out k hk (by omega) _ w.heap.size (w.heap.size + 1) W ((hW.cell (p := ⟨w.heap.size, 0, none⟩) (by dsimp only; omega)).trans f1) ((hW.cell (p := ⟨w.heap.size + 1, 0, none⟩) (by dsimp only; omega)).trans f2) (HA.out.below (hW2.trans (hW.mono (by omega))) (Nat.le_refl _)))
    go_enter Try.func25, Try.ntmps25
    go_wp2_with fail
    generalize World.alloc _ _ = W at hS0 ⊢
    obtain ⟨f1, f2, f3, f4⟩ := hS0
    have hBd : Below w.heap.size w W.drew := f3.trans ((Fr.drew (fun _ => False) W).below f3.size (fun _ _ h => h))
    refine wp_region_still_tail 9 (by kernel_rfl) (by kernel_rfl) ?_
    simp only [List.take_succ_cons, List.take_zero, List.drop_succ_cons, List.drop_zero]
    still_step
    still_step
    still_step
    still_step
    still_step
    still_step
    still_call (Calls.flip (arg_true _))
    still_step
    still_call (Calls.flip (VA.out _ (HA.out.below hBd (Nat.le_refl _))))
    refine wpStill_nil ?_
    change wpList _ _ _ _ _ W.drew
    have k4 := keep2_drew ⟨f1, f2, f3, f4⟩
    clear f1 f2 f3 f4 hBd
    generalize W.drew = W2 at k4 ⊢
    obtain ⟨f1, f2, hBd, f4⟩ := k4
    go_wp2_with fail
    refine (first2_any _ _ _).mono ?_
    rintro e w' ⟨rfl, rfl⟩
    have k5 := keep2_alloc (.cells #[.int .i64 0, .int .i64 0] 27) ⟨f1, f2, hBd, f4⟩
    clear f1 f2 hBd f4
    generalize W2.alloc _ = W3 at k5 ⊢
    obtain ⟨f1, f2, hBa, f4⟩ := k5
    have HPa := hid (HP.out _ f1 f2 hBa f4)
    go_wp2_with (go_at_call 35; refine (imapped_ok _ A.length 44 #[.pointer (some ⟨w.heap.size + 1, 0, none⟩), .pointer (some ⟨w.heap.size, 0, none⟩)] (Soft.idlG A m) hA (enters_of Try.func44 (by kernel_rfl) rfl) HPa.out).mono ?_; rintro e w3 ⟨⟨v', rfl, hv'⟩, hB3⟩)
    go_ret2
    exact ⟨⟨_, rfl, hv'⟩, hBa.trans (hB3.mono hBa.size)⟩
end Go.Proofs.Ytmbjcpppbgapbaa

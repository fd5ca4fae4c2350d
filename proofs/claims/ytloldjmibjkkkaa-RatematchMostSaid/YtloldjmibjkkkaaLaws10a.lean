/- userplanelaw10: RatematchMost. -/
import Derived.Test.YtloldjmibjkkkaaKnown10
namespace Go.Proofs.Ytloldjmibjkkkaa
open Go.RowKit Go.Shelf
set_option linter.unusedVariables false
namespace Rm
theorem posR_err {k f limit rv n : Int} (h : n < 0 ∨ 131072 < n) : posR k f limit rv n = ([], 2) := by
  unfold posR; rw [if_neg]; omega
theorem posR_zero {k f limit rv : Int} (h : valid k f limit = true) (h1 : 0 ≤ rv) (h2 : rv ≤ 3) : posR k f limit rv 0 = ([], 0) := by
  unfold posR; rw [if_pos ⟨h, h1, h2, by omega, by omega⟩, if_pos rfl]
end Rm
set_option maxRecDepth 100000 in
set_option maxHeartbeats 1000000 in
theorem law_RatematchMost (k m : Int) (wk : (Lit.int .i64 k).wf = true) (wm : (Lit.int .i64 m).wf = true) (w : World) :
    Calls Try.prog 9 #[.int .i64 k, .int .i64 m] w fun e w' => e = .returned (.bool true) ∧ Below w.heap.size w w' := by
  clear wk wm
  by_cases h1 : m < 1
  · go_enter Try.func9, Try.ntmps9
    go_wp2_with fail
    refine (known10_true _).mono ?_
    rintro e w1 ⟨rfl, B1⟩
    go_wp2
    go_ret
    exact ⟨rfl, B1⟩
  by_cases h2 : 100 < m
  · go_enter Try.func9, Try.ntmps9
    go_wp2_with fail
    refine (known10_true _).mono ?_
    rintro e w1 ⟨rfl, B1⟩
    go_wp2
    go_ret
    exact ⟨rfl, B1⟩
  by_cases h3 : k < 40
  · go_enter Try.func9, Try.ntmps9
    go_wp2_with fail
    refine (known10_true _).mono ?_
    rintro e w1 ⟨rfl, B1⟩
    go_wp2
    go_ret
    exact ⟨rfl, B1⟩
  by_cases h4 : 6144 < k
  · go_enter Try.func9, Try.ntmps9
    go_wp2_with fail
    refine (known10_true _).mono ?_
    rintro e w1 ⟨rfl, B1⟩
    go_wp2
    go_ret
    exact ⟨rfl, B1⟩
  have c1 := hid (show ∀ w, Calls Try.prog 19 #[.int .i64 k, .int .i64 0, .int .i64 1099511627776, .int .i64 0, .int .i64 (131072 + m)] w fun e w' => (∃ v', e = .returned (.tuple #[v', .int .i64 2])) ∧ Below w.heap.size w w' from fun w => by have := rmPos_any k 0 1099511627776 0 (131072 + m) w; rw [Rm.posR_err (.inr (by omega))] at this; exact this.mono fun e w' ⟨⟨v, h, _⟩, B⟩ => ⟨⟨v, h⟩, B⟩)
  have c2 := hid (show ∀ w, Calls Try.prog 19 #[.int .i64 k, .int .i64 0, .int .i64 1099511627776, .int .i64 0, .int .i64 (-m)] w fun e w' => (∃ v', e = .returned (.tuple #[v', .int .i64 2])) ∧ Below w.heap.size w w' from fun w => by have := rmPos_any k 0 1099511627776 0 (-m) w; rw [Rm.posR_err (.inl (by omega))] at this; exact this.mono fun e w' ⟨⟨v, h, _⟩, B⟩ => ⟨⟨v, h⟩, B⟩)
  have c3 := hid (show ∀ w, Calls Try.prog 19 #[.int .i64 k, .int .i64 0, .int .i64 1099511627776, .int .i64 0, .int .i64 0] w fun e w' => (∃ a c, e = .returned (.tuple #[.slice a 0 c, .int .i64 0])) ∧ Below w.heap.size w w' from fun w => by
    have := rmPos_any k 0 1099511627776 0 0 w
    rw [Rm.posR_zero (by simp [Rm.valid]; omega) (by omega) (by omega)] at this
    exact this.mono fun e w' ⟨⟨v, h, hv⟩, B⟩ => by obtain ⟨a, c, rfl, _⟩ := hv; exact ⟨⟨a, c, h⟩, B⟩)
  go_enter Try.func9, Try.ntmps9
  go_wp2_with fail
  refine (c1.out _).mono ?_
  rintro e w1 ⟨⟨v1, rfl⟩, B1⟩
  go_wp2_with fail
  refine (c2.out _).mono ?_
  rintro e w2 ⟨⟨v2, rfl⟩, B2⟩
  go_wp2_with fail
  refine (c3.out _).mono ?_
  rintro e w3 ⟨⟨a3, d3, rfl⟩, B3⟩
  go_wp2_with fail
  refine (known10_true _).mono ?_
  rintro e w4 ⟨rfl, B4⟩
  go_wp2
  go_ret
  exact ⟨rfl, below_then (below_then (below_then B1 B2) B3) B4⟩
end Go.Proofs.Ytloldjmibjkkkaa

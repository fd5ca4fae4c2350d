/- userplanelaw10: the examples of the chapter hold. -/
import Derived.Test.YtloldjmibjkkkaaRmI
import Derived.Test.YtloldjmibjkkkaaSame
namespace Go.Proofs.Ytloldjmibjkkkaa
open Go.RowKit Go.Shelf
theorem kn10_1 : Rm.startR 40 192 0 = (4, 0) := by decide +kernel
theorem kn10_2 : Rm.startR 40 192 1 = (52, 0) := by decide +kernel
theorem kn10_3 : Rm.startR 40 64 1 = (20, 0) := by decide +kernel
theorem kn10_4 : Rm.usableR 40 0 192 = (132, 0) := by decide +kernel
theorem kn10_5 : Rm.usableR 40 8 1000 = (116, 0) := by decide +kernel
theorem kn10_6 : Rm.posR 40 0 192 0 4 = ([20, 4, 36, 16], 0) := by decide +kernel
theorem kn10_7 : Rm.posR 40 39 3 0 1 = ([], 10) := by decide +kernel
set_option maxRecDepth 100000 in
set_option maxHeartbeats 2000000 in
theorem known10_true (w : World) : Calls Try.prog 13 #[] w fun e w' => e = .returned (.bool true) ∧ Below w.heap.size w w' := by
  have c1 := hid (show ∀ w, Calls Try.prog 17 #[.int .i64 40, .int .i64 192, .int .i64 0] w fun e w' => e = .returned (.tuple #[.int .i64 4, .int .i64 0]) ∧ Below w.heap.size w w' from fun w => by have := rmStart_any 40 192 0 w; rwa [kn10_1] at this)
  have c2 := hid (show ∀ w, Calls Try.prog 17 #[.int .i64 40, .int .i64 192, .int .i64 1] w fun e w' => e = .returned (.tuple #[.int .i64 52, .int .i64 0]) ∧ Below w.heap.size w w' from fun w => by have := rmStart_any 40 192 1 w; rwa [kn10_2] at this)
  have c3 := hid (show ∀ w, Calls Try.prog 17 #[.int .i64 40, .int .i64 64, .int .i64 1] w fun e w' => e = .returned (.tuple #[.int .i64 20, .int .i64 0]) ∧ Below w.heap.size w w' from fun w => by have := rmStart_any 40 64 1 w; rwa [kn10_3] at this)
  have c4 := hid (show ∀ w, Calls Try.prog 11 #[.int .i64 40, .int .i64 0, .int .i64 192] w fun e w' => e = .returned (.tuple #[.int .i64 132, .int .i64 0]) ∧ Below w.heap.size w w' from fun w => by have := rmUsable_any 40 0 192 w; rwa [kn10_4] at this)
  have c5 := hid (show ∀ w, Calls Try.prog 11 #[.int .i64 40, .int .i64 8, .int .i64 1000] w fun e w' => e = .returned (.tuple #[.int .i64 116, .int .i64 0]) ∧ Below w.heap.size w w' from fun w => by have := rmUsable_any 40 8 1000 w; rwa [kn10_5] at this)
  have c6 := hid (show ∀ w, Calls Try.prog 19 #[.int .i64 40, .int .i64 0, .int .i64 192, .int .i64 0, .int .i64 4] w fun e w' => (∃ v', e = .returned (.tuple #[v', .int .i64 0]) ∧ Vw w' v' ([20, 4, 36, 16].map (Value.int .i64))) ∧ Below w.heap.size w w' from fun w => by have := rmPos_any 40 0 192 0 4 w; rwa [kn10_6] at this)
  have c7 := hid (show ∀ w, Calls Try.prog 19 #[.int .i64 40, .int .i64 39, .int .i64 3, .int .i64 0, .int .i64 1] w fun e w' => (∃ v', e = .returned (.tuple #[v', .int .i64 10])) ∧ Below w.heap.size w w' from fun w => by have := rmPos_any 40 39 3 0 1 w; rw [kn10_7] at this; exact this.mono fun e w' ⟨⟨v, h, _⟩, B⟩ => ⟨⟨v, h⟩, B⟩)
  go_enter Try.func13, Try.ntmps13
  go_wp2_with fail
  refine (c1.out _).mono ?_
  rintro e w1 ⟨rfl, B1⟩
  go_wp2_with fail
  refine (c2.out _).mono ?_
  rintro e w2 ⟨rfl, B2⟩
  go_wp2_with fail
  refine (c3.out _).mono ?_
  rintro e w3 ⟨rfl, B3⟩
  go_wp2_with fail
  refine (c4.out _).mono ?_
  rintro e w4 ⟨rfl, B4⟩
  go_wp2_with fail
  refine (c5.out _).mono ?_
  rintro e w5 ⟨rfl, B5⟩
  go_wp2_with fail
  refine (c6.out _).mono ?_
  rintro e w6 ⟨⟨v6, rfl, V6⟩, B6⟩
  go_wp2_with fail
  refine (c7.out _).mono ?_
  rintro e w7 ⟨⟨v7, rfl⟩, B7⟩
  have V7 := hid (V6.below B7 (Nat.le_refl _))
  have BB := hid (below_then (below_then (below_then (below_then (below_then (below_then B1 B2) B3) B4) B5) B6) B7)
  clear c1 c2 c3 c4 c5 c6 c7 B1 B2 B3 B4 B5 B6 B7 V6
  go_wp2_with fail
  refine (same_any _ _ _ [20, 4, 36, 16] [20, 4, 36, 16] (V7.out.below (below_alloc _ _) (Nat.le_refl _)) (Vw.lit w7 #[.int .i64 20, .int .i64 4, .int .i64 36, .int .i64 16] _ 4 rfl) (by decide) (by decide)).mono ?_
  rintro e w8 ⟨rfl, m, rfl⟩
  rw [decide_eq_true rfl]
  have BB2 := hid (below_then (below_then BB.out (below_alloc _ _)) (below_drewN (w7.alloc (.cells #[.int .i64 20, .int .i64 4, .int .i64 36, .int .i64 16] 3)) m))
  go_wp2
  go_ret
  exact ⟨rfl, BB2.out⟩
end Go.Proofs.Ytloldjmibjkkkaa

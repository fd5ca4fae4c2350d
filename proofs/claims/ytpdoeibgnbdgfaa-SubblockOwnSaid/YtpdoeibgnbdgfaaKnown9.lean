/- userplanelaw09: the examples of the chapter hold. -/
import Derived.Test.YtpdoeibgnbdgfaaOrder
import Derived.Test.YtpdoeibgnbdgfaaSame
namespace Go.Proofs.Ytpdoeibgnbdgfaa
open Go.RowKit Go.Shelf

set_option maxHeartbeats 1000000 in
theorem begins_true (d R : Nat) (s : Int) (hd1 : 1 ≤ d) (hd2 : d ≤ 6148) (hR1 : d ≤ 32 * R) (hR2 : 32 * R < d + 32) (hs0 : 0 ≤ s) (hs2 : s ≤ 2) (b n c : Nat) (ws : List Int) (hn : ws.length = n) (hn0 : n ≤ 32 * R)
    (hpre : (Ord.outL d R s (32 * R)).take n = ws) (w : World) (hw : Vw w (.slice (some ⟨b, 0, none⟩) n c) (ws.map (Value.int .i64))) :
    Calls Try.prog 26 #[.int .i64 d, .int .i64 s, .slice (some ⟨b, 0, none⟩) n c] w fun e w' => e = .returned (.bool true) ∧ Below w.heap.size w w' := by
  have HO := hid (fun w => order_ok d R s hd1 hd2 hR1 hR2 hs0 hs2 w)
  have HP := hid hpre
  have HN := hid hn
  clear hpre hn
  go_enter Try.func26, Try.ntmps26
  go_wp2_with (first
    | (go_at_call 11; refine (HO.out _).mono ?_; rintro e w1 ⟨v, rfl, hown, hB1⟩; obtain ⟨g, cap, rfl⟩ := hown.shape (32 * R) (by simp [Ord.outL_len]) (by omega); have hcap := hown.cap))
  have hw1 : Vw w1 (.slice (some ⟨b, 0, none⟩) n c) (ws.map (Value.int .i64)) := hw.below hB1 (Nat.le_refl _)
  have hl1 : Vw w1 (.slice (some ⟨g, 0, none⟩) n cap) ((ws).map (Value.int .i64)) := by
    have := hown.vw.take n cap (by simp [Ord.outL_len]; omega)
    rwa [← List.map_take, HP.out] at this
  refine (same_any _ _ _ ws ws hl1 hw1 (by rw [HN.out]; omega) (by rw [HN.out]; omega)).mono ?_
  rintro e w2 ⟨rfl, m, rfl⟩
  rw [decide_eq_true rfl]
  go_wp2
  go_ret
  exact ⟨rfl, hB1.trans ⟨rfl, rfl, rfl, Nat.le_refl _, fun _ _ => rfl⟩⟩

theorem ord_known1 : (Ord.outL 32 1 0 32).take 4 = [0, 16, 8, 24] := by decide +kernel
theorem ord_known2 : (Ord.outL 32 1 2 32).take 4 = [1, 17, 9, 25] := by decide +kernel
theorem ord_known3 : (Ord.outL 33 2 1 64).take 4 = [-1, 1, -1, 17] := by decide +kernel
theorem ord_known4 : (Ord.outL 32 1 2 32)[31]? = some 0 := by decide +kernel

set_option maxHeartbeats 2000000 in
theorem known_true (w : World) : Calls Try.prog 14 #[] w fun e w' => e = .returned (.bool true) ∧ Below w.heap.size w w' := by
  have HO := hid (fun w => order_ok 32 1 2 (by omega) (by omega) (by omega) (by omega) (by omega) (by omega) w)
  have c1 := hid (show ∀ w, Calls Try.prog 16 #[.int .i64 1] w fun e w' => e = .returned (.int .i64 16) ∧ Below w.heap.size w w' from fun w => column_any 1 w)
  have c2 := hid (show ∀ w, Calls Try.prog 16 #[.int .i64 30] w fun e w' => e = .returned (.int .i64 15) ∧ Below w.heap.size w w' from fun w => column_any 30 w)
  have c3 := hid (show ∀ w, Calls Try.prog 16 #[.int .i64 32] w fun e w' => e = .returned (.int .i64 (-1)) ∧ Below w.heap.size w w' from fun w => column_any 32 w)
  have c4 := hid (show ∀ w, Calls Try.prog 15 #[.int .i64 44] w fun e w' => e = .returned (.int .i64 2) ∧ w = w' from fun w => rows_any 44 w)
  have c5 := hid (show ∀ w, Calls Try.prog 15 #[.int .i64 32] w fun e w' => e = .returned (.int .i64 1) ∧ w = w' from fun w => rows_any 32 w)
  have c6 := hid (show ∀ w, Calls Try.prog 15 #[.int .i64 0] w fun e w' => e = .returned (.int .i64 0) ∧ w = w' from fun w => rows_any 0 w)
  go_enter Try.func14, Try.ntmps14
  go_wp2_with (first
    | (go_at_call 11; refine (HO.out _).mono ?_; rintro e w1 ⟨v, rfl, hown, hB1⟩; obtain ⟨g, cap, rfl⟩ := hown.shape 32 (by simp [Ord.outL_len]) (by omega)))
  refine (c1.out _).mono ?_
  rintro e w2 ⟨rfl, hB2⟩
  go_wp2_with fail
  refine (c2.out _).mono ?_
  rintro e w3 ⟨rfl, hB3⟩
  go_wp2_with fail
  refine (c3.out _).mono ?_
  rintro e w4 ⟨rfl, hB4⟩
  go_wp2_with fail
  refine (c4.out _).mono ?_
  rintro e w5 ⟨rfl, rfl⟩
  go_wp2_with fail
  refine (c5.out _).mono ?_
  rintro e w5 ⟨rfl, rfl⟩
  go_wp2_with fail
  refine (c6.out _).mono ?_
  rintro e w5 ⟨rfl, rfl⟩
  go_wp2_with fail
  refine (begins_true 32 1 0 (by omega) (by omega) (by omega) (by omega) (by omega) (by omega) _ 4 4 [0, 16, 8, 24] rfl (by omega) ord_known1 _ (Vw.lit w4 #[.int .i64 0, .int .i64 16, .int .i64 8, .int .i64 24] _ 4 rfl)).mono ?_
  rintro e w5 ⟨rfl, hB5⟩
  go_wp2_with fail
  refine (begins_true 32 1 2 (by omega) (by omega) (by omega) (by omega) (by omega) (by omega) _ 4 4 [1, 17, 9, 25] rfl (by omega) ord_known2 _ (Vw.lit w5 #[.int .i64 1, .int .i64 17, .int .i64 9, .int .i64 25] _ 4 rfl)).mono ?_
  rintro e w6 ⟨rfl, hB6⟩
  have hg := (hown.block (g := g) rfl)
  have e1 : Below w1.heap.size w1 w2 := hB2
  have e2 : Below w1.heap.size w2 w3 := hB3.mono hB2.size
  have e3 : Below w1.heap.size w3 w4 := hB4.mono (Nat.le_trans hB2.size hB3.size)
  have h14 := (e1.trans e2).trans e3
  have e4 : Below w1.heap.size w4 w5 := ((Below.refl _ _).alloc h14.size _).trans (hB5.mono (by have := h14.size; simp; omega))
  have h15 := h14.trans e4
  have e5 : Below w1.heap.size w5 w6 := ((Below.refl _ _).alloc h15.size _).trans (hB6.mono (by have := h15.size; simp; omega))
  have h16 := h15.trans e5
  have hl31 : w6.cell? ⟨g, 31, none⟩ = some (.int .i64 0) := by
    rw [h16.cell (p := ⟨g, 31, none⟩) hg.2, hown.at 31 (by simp [Ord.outL_len])]
    have := ord_known4
    rw [List.getElem_map]
    have h2 := List.getElem?_eq_some_iff.1 this
    rw [h2.2]
  clear e1 e2 e3 e4 e5 h14 h15
  go_wp2_with fail
  refine (begins_true 33 2 1 (by omega) (by omega) (by omega) (by omega) (by omega) (by omega) _ 4 4 [-1, 1, -1, 17] rfl (by omega) ord_known3 _ (Vw.lit w6 #[.int .i64 (-1), .int .i64 1, .int .i64 (-1), .int .i64 17] _ 4 rfl)).mono ?_
  rintro e w7 ⟨rfl, hB7⟩
  go_wp2_with fail
  go_ret
  exact ⟨rfl, hB1.trans (h16.mono hB1.size) |>.trans (((Below.refl _ _).alloc (Nat.le_trans hB1.size h16.size) _).trans (hB7.mono (by have := hB1.size; have := h16.size; simp; omega)))⟩
end Go.Proofs.Ytpdoeibgnbdgfaa

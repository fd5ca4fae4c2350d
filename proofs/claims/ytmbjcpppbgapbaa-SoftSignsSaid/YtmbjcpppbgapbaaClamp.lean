/- soft.bounds, Clamp, Add; Valid; the reference's Clamp and Add. -/
import Derived.Test.YtmbjcpppbgapbaaContL
import Derived.Test.YtmbjcpppbgapbaaSoft9
namespace Go.Proofs.Ytmbjcpppbgapbaa
open Go.RowKit Go.Shelf
set_option linter.unusedVariables false
theorem bcell {W w1 : World} (hb : Below W.heap.size W w1) : (∀ b o, b < W.heap.size → w1.cell? ⟨b, o, none⟩ = W.cell? ⟨b, o, none⟩) ∧ (∀ b o, b < W.heap.size → w1.frozen? ⟨b, o, none⟩ = W.frozen? ⟨b, o, none⟩) :=
  ⟨fun b o h => hb.cell (p := ⟨b, o, none⟩) h, fun b o h => hb.frozen (p := ⟨b, o, none⟩) h⟩
theorem bounds_any (w : World) : Calls Try.prog 32 #[] w fun e w' => e = .returned (.agg #[.int .i64 (-127), .int .i64 127]) ∧ Below w.heap.size w w' := by
  go_enter Try.func32, Try.ntmps32
  go_wp2
  exact bodyPost_ret (v := .agg #[.int .i64 (-127), .int .i64 127]) (by simp [results, Try.results32, go_sem]) rfl ⟨rfl, (Below.refl _ _).alloc (Nat.le_refl _) _⟩
theorem clamp_any (v : Int) (w : World) : Calls Try.prog 10 #[.int .i64 v] w fun e w' => e = .returned (.int .i64 (Soft.clamp v)) ∧ Below w.heap.size w w' := by
  by_cases h1 : 127 < v
  · rw [Soft.clamp_big h1]
    go_enter Try.func10, Try.ntmps10
    go_wp2_with (go_at_call 32; refine (bounds_any _).mono ?_; rintro e w1 ⟨rfl, hB⟩)
    all_goals (go_ret; exact ⟨ret_int (by omega), hB.trans (((Below.refl _ _).alloc hB.size _))⟩)
  · by_cases h2 : v < -127
    · rw [Soft.clamp_small h2]
      go_enter Try.func10, Try.ntmps10
      go_wp2_with (go_at_call 32; refine (bounds_any _).mono ?_; rintro e w1 ⟨rfl, hB⟩)
      all_goals (go_ret; exact ⟨ret_int (by omega), hB.trans (((Below.refl _ _).alloc hB.size _))⟩)
    · rw [Soft.clamp_id (by omega) (by omega)]
      go_enter Try.func10, Try.ntmps10
      go_wp2_with (go_at_call 32; refine (bounds_any _).mono ?_; rintro e w1 ⟨rfl, hB⟩)
      all_goals (go_ret; exact ⟨ret_int (by omega), hB.trans (((Below.refl _ _).alloc hB.size _))⟩)
theorem add_any (a b : Int) (w : World) : Calls Try.prog 12 #[.int .i64 a, .int .i64 b] w fun e w' => e = .returned (.int .i64 (Soft.add a b)) ∧ Below w.heap.size w w' := by
  unfold Soft.add
  have h1 := Soft.clamp_lo a
  have h2 := Soft.clamp_hi a
  have h3 := Soft.clamp_lo b
  have h4 := Soft.clamp_hi b
  have C1 := hid (fun w => clamp_any a w)
  have C2 := hid (fun w => clamp_any b w)
  have C3 := hid (fun w => clamp_any (Soft.clamp a + Soft.clamp b) w)
  generalize Soft.clamp a = x at *
  generalize Soft.clamp b = y at *
  generalize Soft.clamp (x + y) = z at *
  go_enter Try.func12, Try.ntmps12
  go_wp2_with fail
  refine (C1.out _).mono ?_
  rintro e w1 ⟨rfl, hB1⟩
  go_wp2_with fail
  refine (C2.out _).mono ?_
  rintro e w2 ⟨rfl, hB2⟩
  go_wp2_with fail
  refine (C3.out _).mono ?_
  rintro e w3 ⟨rfl, hB3⟩
  go_wp2
  go_ret
  exact ⟨rfl, below_then (below_then hB1 hB2) hB3⟩
theorem inv_any (v : Int) (w : World) : Calls Try.prog 50 #[.int .i64 v] w fun e w' => e = .returned (.bool (Soft.inv v)) ∧ Below w.heap.size w w' := by
  have C1 := hid (fun w => clamp_any v w)
  have H := hid (show Soft.inv v = (Soft.clamp v != v) from rfl)
  generalize Soft.clamp v = x at *
  go_enter Try.func50, Try.ntmps50
  go_wp2_with (go_at_call 10; refine (C1.out _).mono ?_; rintro e w1 ⟨rfl, hB⟩)
  go_ret
  exact ⟨ret_bool H.out.symm, hB⟩
theorem listValid_any (w : World) (v : Value) (B : List Int) (hv : Vw w v (B.map (Value.int .i64))) (hl : B.length ≤ 9223372036854775807) :
    Calls Try.prog 37 #[v] w fun e w' => e = .returned (.bool (!Soft.bad B)) ∧ Below w.heap.size w w' := by
  have H := lcontains_any w v (B.map (Value.int .i64)) hv (by simpa using hl) 50 #[] (enters_of Try.func50 (by kernel_rfl) rfl) (fun i => Soft.inv (B.getD i 0))
    (fun i hi W _ => by
      have hi' : i < B.length := by simpa using hi
      have e : (B.map (Value.int .i64))[i] = Value.int .i64 (B.getD i 0) := by simp [List.getD, hi']
      rw [e]
      exact inv_any _ _)
  rw [List.length_map, Soft.bad_eq] at H
  have HH := hid H
  clear H hv
  generalize Soft.bad B = x at *
  go_enter Try.func37, Try.ntmps37
  go_wp2_with (go_at_call 49; refine HH.out.mono ?_; rintro e w1 ⟨rfl, hB⟩)
  go_ret
  exact ⟨rfl, hB⟩
theorem valid_any (w : World) (v : Value) (B : List Int) (hv : Vw w v (B.map (Value.int .i64))) (hl : B.length ≤ 9223372036854775807) :
    Calls Try.prog 19 #[v] w fun e w' => e = .returned (.bool (!Soft.bad B)) ∧ Below w.heap.size w w' := by
  have HH := hid (listValid_any w v B hv hl)
  obtain ⟨a, c, rfl, _⟩ := hv
  rw [List.length_map] at HH ⊢
  generalize Soft.bad B = x at *
  have hfd : ∀ w : World, (Instr.field 67 (.agg #[.slice a B.length c]) 0).run Try.prog w = .ok (.slice a B.length c) w := fun _ => by kernel_rfl
  go_enter Try.func19, Try.ntmps19
  go_wp2_with (go_at_call 37; refine HH.out.mono ?_; rintro e w1 ⟨rfl, hB⟩)
  go_ret
  exact ⟨rfl, hB⟩
theorem refClamp_any (v : Int) (w : World) : Calls Try.prog 11 #[.int .i64 v] w fun e w' => e = .returned (.int .i64 (Soft.clamp v)) ∧ w = w' := by
  by_cases h1 : 127 < v
  · rw [Soft.clamp_big h1]
    go_enter Try.func11, Try.ntmps11
    go_wp2
    go_ret
    exact ⟨rfl, rfl⟩
  · by_cases h2 : v < -127
    · rw [Soft.clamp_small h2]
      go_enter Try.func11, Try.ntmps11
      go_wp2
      go_ret
      exact ⟨rfl, rfl⟩
    · rw [Soft.clamp_id (by omega) (by omega)]
      go_enter Try.func11, Try.ntmps11
      go_wp2
      go_ret
      exact ⟨rfl, rfl⟩
theorem refAdd_any (a b : Int) (w : World) : Calls Try.prog 13 #[.int .i64 a, .int .i64 b] w fun e w' => e = .returned (.int .i64 (Soft.add a b)) ∧ w = w' := by
  unfold Soft.add
  have h1 := Soft.clamp_lo a
  have h2 := Soft.clamp_hi a
  have h3 := Soft.clamp_lo b
  have h4 := Soft.clamp_hi b
  have C1 := hid (fun w => refClamp_any a w)
  have C2 := hid (fun w => refClamp_any b w)
  have C3 := hid (fun w => refClamp_any (Soft.clamp a + Soft.clamp b) w)
  generalize Soft.clamp a = x at *
  generalize Soft.clamp b = y at *
  generalize Soft.clamp (x + y) = z at *
  go_enter Try.func13, Try.ntmps13
  go_wp2_with fail
  refine (C1.out _).mono ?_
  rintro e w1 ⟨rfl, rfl⟩
  go_wp2_with fail
  refine (C2.out _).mono ?_
  rintro e w2 ⟨rfl, rfl⟩
  go_wp2_with fail
  refine (C3.out _).mono ?_
  rintro e w3 ⟨rfl, rfl⟩
  go_wp2
  go_ret
  exact ⟨rfl, rfl⟩
end Go.Proofs.Ytmbjcpppbgapbaa

/- soft.bounds, Clamp; Valid; the reference's Clamp (without Add). -/
import Derived.Test.YtngggknejkcepaaContL
import Derived.Test.YtngggknejkcepaaSoft9
namespace Go.Proofs.Ytngggknejkcepaa
open Go.RowKit Go.Shelf
set_option linter.unusedVariables false
theorem bcell {W w1 : World} (hb : Below W.heap.size W w1) : (∀ b o, b < W.heap.size → w1.cell? ⟨b, o, none⟩ = W.cell? ⟨b, o, none⟩) ∧ (∀ b o, b < W.heap.size → w1.frozen? ⟨b, o, none⟩ = W.frozen? ⟨b, o, none⟩) :=
  ⟨fun b o h => hb.cell (p := ⟨b, o, none⟩) h, fun b o h => hb.frozen (p := ⟨b, o, none⟩) h⟩
theorem bounds_any (w : World) : Calls Try.prog 60 #[] w fun e w' => e = .returned (.agg #[.int .i64 (-127), .int .i64 127]) ∧ Below w.heap.size w w' := by
  go_enter Try.func60, Try.ntmps60
  go_wp2
  exact bodyPost_ret (v := .agg #[.int .i64 (-127), .int .i64 127]) (by simp [results, Try.results60, go_sem]) rfl ⟨rfl, (Below.refl _ _).alloc (Nat.le_refl _) _⟩
theorem clamp_any (v : Int) (w : World) : Calls Try.prog 53 #[.int .i64 v] w fun e w' => e = .returned (.int .i64 (Soft.clamp v)) ∧ Below w.heap.size w w' := by
  by_cases h1 : 127 < v
  · rw [Soft.clamp_big h1]
    go_enter Try.func53, Try.ntmps53
    go_wp2_with (go_at_call 60; refine (bounds_any _).mono ?_; rintro e w1 ⟨rfl, hB⟩)
    all_goals (go_ret; exact ⟨ret_int (by omega), hB.trans (((Below.refl _ _).alloc hB.size _))⟩)
  · by_cases h2 : v < -127
    · rw [Soft.clamp_small h2]
      go_enter Try.func53, Try.ntmps53
      go_wp2_with (go_at_call 60; refine (bounds_any _).mono ?_; rintro e w1 ⟨rfl, hB⟩)
      all_goals (go_ret; exact ⟨ret_int (by omega), hB.trans (((Below.refl _ _).alloc hB.size _))⟩)
    · rw [Soft.clamp_id (by omega) (by omega)]
      go_enter Try.func53, Try.ntmps53
      go_wp2_with (go_at_call 60; refine (bounds_any _).mono ?_; rintro e w1 ⟨rfl, hB⟩)
      all_goals (go_ret; exact ⟨ret_int (by omega), hB.trans (((Below.refl _ _).alloc hB.size _))⟩)
theorem inv_any (v : Int) (w : World) : Calls Try.prog 59 #[.int .i64 v] w fun e w' => e = .returned (.bool (Soft.inv v)) ∧ Below w.heap.size w w' := by
  have C1 := hid (fun w => clamp_any v w)
  have H := hid (show Soft.inv v = (Soft.clamp v != v) from rfl)
  generalize Soft.clamp v = x at *
  go_enter Try.func59, Try.ntmps59
  go_wp2_with (go_at_call 53; refine (C1.out _).mono ?_; rintro e w1 ⟨rfl, hB⟩)
  go_ret
  exact ⟨ret_bool H.out.symm, hB⟩
theorem listValid_any (w : World) (v : Value) (B : List Int) (hv : Vw w v (B.map (Value.int .i64))) (hl : B.length ≤ 9223372036854775807) :
    Calls Try.prog 52 #[v] w fun e w' => e = .returned (.bool (!Soft.bad B)) ∧ Below w.heap.size w w' := by
  have H := lcontains_any w v (B.map (Value.int .i64)) hv (by simpa using hl) 59 #[] (enters_of Try.func59 (by kernel_rfl) rfl) (fun i => Soft.inv (B.getD i 0))
    (fun i hi W _ => by
      have hi' : i < B.length := by simpa using hi
      have e : (B.map (Value.int .i64))[i] = Value.int .i64 (B.getD i 0) := by simp [List.getD, hi']
      rw [e]
      exact inv_any _ _)
  rw [List.length_map, Soft.bad_eq] at H
  have HH := hid H
  clear H hv
  generalize Soft.bad B = x at *
  go_enter Try.func52, Try.ntmps52
  go_wp2_with (go_at_call 58; refine HH.out.mono ?_; rintro e w1 ⟨rfl, hB⟩)
  go_ret
  exact ⟨rfl, hB⟩
theorem valid_any (w : World) (v : Value) (B : List Int) (hv : Vw w v (B.map (Value.int .i64))) (hl : B.length ≤ 9223372036854775807) :
    Calls Try.prog 41 #[v] w fun e w' => e = .returned (.bool (!Soft.bad B)) ∧ Below w.heap.size w w' := by
  have HH := hid (listValid_any w v B hv hl)
  obtain ⟨a, c, rfl, _⟩ := hv
  rw [List.length_map] at HH ⊢
  generalize Soft.bad B = x at *
  have hfd : ∀ w : World, (Instr.field 99 (.agg #[.slice a B.length c]) 0).run Try.prog w = .ok (.slice a B.length c) w := fun _ => by kernel_rfl
  go_enter Try.func41, Try.ntmps41
  go_wp2_with (go_at_call 52; refine HH.out.mono ?_; rintro e w1 ⟨rfl, hB⟩)
  go_ret
  exact ⟨rfl, hB⟩
theorem refClamp_any (v : Int) (w : World) : Calls Try.prog 43 #[.int .i64 v] w fun e w' => e = .returned (.int .i64 (Soft.clamp v)) ∧ w = w' := by
  by_cases h1 : 127 < v
  · rw [Soft.clamp_big h1]
    go_enter Try.func43, Try.ntmps43
    go_wp2
    go_ret
    exact ⟨rfl, rfl⟩
  · by_cases h2 : v < -127
    · rw [Soft.clamp_small h2]
      go_enter Try.func43, Try.ntmps43
      go_wp2
      go_ret
      exact ⟨rfl, rfl⟩
    · rw [Soft.clamp_id (by omega) (by omega)]
      go_enter Try.func43, Try.ntmps43
      go_wp2
      go_ret
      exact ⟨rfl, rfl⟩
end Go.Proofs.Ytngggknejkcepaa

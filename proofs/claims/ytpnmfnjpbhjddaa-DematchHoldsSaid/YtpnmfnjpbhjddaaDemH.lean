/- userplanelaw12.DematchHolds. -/
import Derived.Test.YtpnmfnjpbhjddaaDemX
import Derived.Test.YtpnmfnjpbhjddaaDemM
import Derived.Test.YtpnmfnjpbhjddaaDemI
import Derived.Test.YtpnmfnjpbhjddaaDem9c
namespace Go.Proofs.Ytpnmfnjpbhjddaa
open Go.RowKit Go.Shelf
set_option linter.unusedVariables false
attribute [local go_sem ↓] Go.wp_at_zero Go.wp_at_succ
theorem refValid10_any (k f limit : Int) (w : World) :
    Calls Try.prog 5 #[.int .i64 k, .int .i64 f, .int .i64 limit] w fun e w' => e = .returned (.bool (Rm.valid k f limit)) ∧ w = w' := by
  cases hv : Rm.valid k f limit with
  | true =>
    obtain ⟨h1, h2, h3, h4, h5⟩ := Rm.valid_of hv
    clear hv
    go_enter Try.func5, Try.ntmps5
    go_wp2
    go_ret
    exact ⟨rfl, rfl⟩
  | false =>
    have h := Rm.valid_no hv
    clear hv
    by_cases h1 : k < 40
    · clear h
      go_enter Try.func5, Try.ntmps5
      go_wp2
      go_ret
      exact ⟨rfl, rfl⟩
    by_cases h2 : 6144 < k
    · clear h
      go_enter Try.func5, Try.ntmps5
      go_wp2
      go_ret
      exact ⟨rfl, rfl⟩
    by_cases h3 : f < 0
    · clear h
      go_enter Try.func5, Try.ntmps5
      go_wp2
      go_ret
      exact ⟨rfl, rfl⟩
    by_cases h4 : k ≤ f
    · clear h
      go_enter Try.func5, Try.ntmps5
      go_wp2
      go_ret
      exact ⟨rfl, rfl⟩
    have h5 : limit < 1 := by omega
    clear h
    go_enter Try.func5, Try.ntmps5
    go_wp2
    go_ret
    exact ⟨ret_bool (decide_eq_false (by omega)), rfl⟩
set_option maxRecDepth 100000 in
set_option maxHeartbeats 4000000 in
/-- The guard strikes. -/
theorem holds_out (w : World) (k f limit seed : Int) (v4 : Value) (R : List Int) (v5 : Value) (S : List Int) (v6 : Value) (M : List Int) (h4 : IntsIn .i64 w v4 R) (h5 : IntsIn .i64 w v5 S) (h6 : IntsIn .i64 w v6 M)
    (h : 200 < k ∨ Rm.valid k f limit = false ∨ 6 < R.length ∨ S.length < R.length ∨ M.length < R.length) :
    Calls Try.prog 3 #[.int .i64 k, .int .i64 f, .int .i64 limit, .int .i64 seed, v4, v5, v6] w fun e w' => e = .returned (.bool true) ∧ Below w.heap.size w w' := by
  have CW := hid (fun w => works12 w)
  have CV := hid (fun w => refValid10_any k f limit w)
  by_cases g0 : 200 < k
  · have d0 : decide (200 < k) = true := decide_eq_true g0
    clear h
    obtain ⟨a4, c4, rfl, _⟩ := h4.1
    obtain ⟨a5, c5, rfl, _⟩ := h5.1
    obtain ⟨a6, c6, rfl, _⟩ := h6.1
    simp only [List.length_map]
    clear h4 h5 h6
    go_enter Try.func3, Try.ntmps3
    go_wp2_with (first
      | (go_at_call 5; refine (CV.out _).mono ?_; rintro r w' ⟨rfl, rfl⟩)
      | (go_at_call 6; refine (CW.out _).mono ?_; rintro r wz ⟨rfl, Bz⟩))
    go_ret
    exact ⟨rfl, Bz⟩
  have d0 : decide (200 < k) = false := decide_eq_false g0
  cases hv : Rm.valid k f limit with
  | false =>
    rw [hv] at CV
    clear h hv
    obtain ⟨a4, c4, rfl, _⟩ := h4.1
    obtain ⟨a5, c5, rfl, _⟩ := h5.1
    obtain ⟨a6, c6, rfl, _⟩ := h6.1
    simp only [List.length_map]
    clear h4 h5 h6
    go_enter Try.func3, Try.ntmps3
    go_wp2_with (first
      | (go_at_call 5; refine (CV.out _).mono ?_; rintro r w' ⟨rfl, rfl⟩)
      | (go_at_call 6; refine (CW.out _).mono ?_; rintro r wz ⟨rfl, Bz⟩))
    go_ret
    exact ⟨rfl, Bz⟩
  | true =>
    rw [hv] at CV
    by_cases g1 : 6 < R.length
    · have d1 : decide (6 < (R.length : Int)) = true := decide_eq_true (by omega)
      clear h hv
      obtain ⟨a4, c4, rfl, _⟩ := h4.1
      obtain ⟨a5, c5, rfl, _⟩ := h5.1
      obtain ⟨a6, c6, rfl, _⟩ := h6.1
      simp only [List.length_map]
      clear h4 h5 h6
      go_enter Try.func3, Try.ntmps3
      go_wp2_with (first
        | (go_at_call 5; refine (CV.out _).mono ?_; rintro r w' ⟨rfl, rfl⟩)
        | (go_at_call 6; refine (CW.out _).mono ?_; rintro r wz ⟨rfl, Bz⟩))
      go_ret
      exact ⟨rfl, Bz⟩
    have d1 : decide (6 < (R.length : Int)) = false := decide_eq_false (by omega)
    by_cases g2 : S.length < R.length
    · have d2 : decide ((S.length : Int) < (R.length : Int)) = true := decide_eq_true (by omega)
      clear h hv
      obtain ⟨a4, c4, rfl, _⟩ := h4.1
      obtain ⟨a5, c5, rfl, _⟩ := h5.1
      obtain ⟨a6, c6, rfl, _⟩ := h6.1
      simp only [List.length_map]
      clear h4 h5 h6
      go_enter Try.func3, Try.ntmps3
      go_wp2_with (first
        | (go_at_call 5; refine (CV.out _).mono ?_; rintro r w' ⟨rfl, rfl⟩)
        | (go_at_call 6; refine (CW.out _).mono ?_; rintro r wz ⟨rfl, Bz⟩))
      go_ret
      exact ⟨rfl, Bz⟩
    have d2 : decide ((S.length : Int) < (R.length : Int)) = false := decide_eq_false (by omega)
    by_cases g3 : M.length < R.length
    · have d3 : decide ((M.length : Int) < (R.length : Int)) = true := decide_eq_true (by omega)
      clear h hv
      obtain ⟨a4, c4, rfl, _⟩ := h4.1
      obtain ⟨a5, c5, rfl, _⟩ := h5.1
      obtain ⟨a6, c6, rfl, _⟩ := h6.1
      simp only [List.length_map]
      clear h4 h5 h6
      go_enter Try.func3, Try.ntmps3
      go_wp2_with (first
        | (go_at_call 5; refine (CV.out _).mono ?_; rintro r w' ⟨rfl, rfl⟩)
        | (go_at_call 6; refine (CW.out _).mono ?_; rintro r wz ⟨rfl, Bz⟩))
      go_ret
      exact ⟨rfl, Bz⟩
    rcases h with h | h | h | h | h
    · exact absurd h g0
    · rw [hv] at h; cases h
    · exact absurd h g1
    · exact absurd h g2
    · exact absurd h g3
end Go.Proofs.Ytpnmfnjpbhjddaa

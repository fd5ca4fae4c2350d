/- userplane/ratematch: Positions. -/
import Derived.Test.YtloldjmibjkkkaaSel9
import Derived.Test.YtloldjmibjkkkaaContI
import Derived.Test.YtloldjmibjkkkaaRoom
import Derived.Test.YtloldjmibjkkkaaJump
namespace Go.Proofs.Ytloldjmibjkkkaa
open Go.RowKit Go.Shelf
set_option linter.unusedVariables false
attribute [local go_sem] Oper.semAt_some
theorem anyU_any (w : World) (v : Value) (L : List Int) (hv : Vw w v (L.map (Value.int .i64))) (hl : L.length ≤ 9223372036854775807) :
    Calls Try.prog 31 #[v, .func (.func 26) #[] #[]] w fun e w' => e = .returned (.bool (Rm.anyU L)) ∧ w = w' := by
  have := icontains_any w v (L.map (Value.int .i64)) hv (by simpa using hl) 26 #[] (enters_of Try.func26 (by kernel_rfl) rfl) (fun i => Rm.us (L.getD i 0))
    (fun i hi => by
      have hi' : i < L.length := by simpa using hi
      have e : (L.map (Value.int .i64))[i] = Value.int .i64 (L.getD i 0) := by simp [List.getD, hi']
      rw [e]
      exact (usable_any _ _).mono fun e w' h => ⟨h.1, h.2.symm⟩)
  rw [List.length_map] at this
  exact this.mono fun e w' h => ⟨h.1, h.2.symm⟩
set_option maxHeartbeats 1000000 in
theorem rmPos_err (k f limit rv n : Int) (h : ¬ (Rm.valid k f limit = true ∧ 0 ≤ rv ∧ rv ≤ 3 ∧ 0 ≤ n ∧ n ≤ 131072)) (w : World) :
    Calls Try.prog 19 #[.int .i64 k, .int .i64 f, .int .i64 limit, .int .i64 rv, .int .i64 n] w fun e w' => e = .returned (.tuple #[.slice none 0 0, .int .i64 2]) ∧ Below w.heap.size w w' := by
  cases hv : Rm.valid k f limit with
  | false =>
    have C := hid (rmOf_err k f limit hv)
    clear hv h
    go_enter Try.func19, Try.ntmps19
    go_wp2
    go_step3
    go_wp2_with (go_at_call 21; refine (C.out _).mono ?_; rintro e w1 ⟨rfl, B1⟩)
    rw [Exit.noGoto_ret]
    go_ret2
    exact ⟨rfl, below_then (below_alloc _ _) (below_then B1 (below_alloc _ _))⟩
  | true =>
    obtain ⟨h1, h2, h3, h4, h5⟩ := Rm.valid_of hv
    rw [hv] at h
    clear hv
    obtain ⟨k, rfl⟩ := Int.eq_ofNat_of_zero_le (show 0 ≤ k by omega)
    obtain ⟨f, rfl⟩ := Int.eq_ofNat_of_zero_le h3
    have C := hid (rmOf_ok k f limit (by omega) (by omega) (by omega) h5)
    generalize Rm.rows k = R at *
    generalize Rm.size k limit = S at *
    have h' : rv < 0 ∨ 3 < rv ∨ n < 0 ∨ 131072 < n := by
      rcases Classical.em (rv < 0 ∨ 3 < rv ∨ n < 0 ∨ 131072 < n) with h' | h'
      · exact h'
      · exact absurd ⟨rfl, by omega, by omega, by omega, by omega⟩ h
    clear h h1 h2 h3 h4 h5
    by_cases e1 : rv < 0
    · clear h'
      go_enter Try.func19, Try.ntmps19
      go_wp2
      go_step3
      go_wp2_with (go_at_call 21; refine (C.out _).mono ?_; rintro e w1 ⟨rfl, B1⟩)
      rw [Exit.noGoto_ret]
      go_ret2
      exact ⟨rfl, below_then (below_alloc _ _) (below_then B1 (below_alloc _ _))⟩
    by_cases e2 : 3 < rv
    · clear h'
      go_enter Try.func19, Try.ntmps19
      go_wp2
      go_step3
      go_wp2_with (go_at_call 21; refine (C.out _).mono ?_; rintro e w1 ⟨rfl, B1⟩)
      rw [Exit.noGoto_ret]
      go_ret2
      exact ⟨rfl, below_then (below_alloc _ _) (below_then B1 (below_alloc _ _))⟩
    by_cases e3 : n < 0
    · clear h'
      go_enter Try.func19, Try.ntmps19
      go_wp2
      go_step3
      go_wp2_with fail
      refine (C.out _).mono ?_
      rintro e w1 ⟨rfl, B1⟩
      have hlt : w.heap.size < w1.heap.size := by have := B1.size; simp at this; omega
      have hce : w1.cell? ⟨w.heap.size, 0, none⟩ = some (.int .i64 n) := (B1.cell (p := ⟨w.heap.size, 0, none⟩) (by simp)).trans (by go_simp)
      have BB := below_then (below_alloc _ _) (below_then B1 (below_alloc w1 (.cells #[.int .i64 k, .int .i64 f, .int .i64 R, .int .i64 S] 42)))
      clear B1
      go_wp2
      rw [Exit.noGoto_ret]
      go_ret2
      exact ⟨rfl, BB⟩
    have e4 : 131072 < n := by omega
    clear h'
    go_enter Try.func19, Try.ntmps19
    go_wp2
    go_step3
    go_wp2_with fail
    refine (C.out _).mono ?_
    rintro e w1 ⟨rfl, B1⟩
    have hlt : w.heap.size < w1.heap.size := by have := B1.size; simp at this; omega
    have hce : w1.cell? ⟨w.heap.size, 0, none⟩ = some (.int .i64 n) := (B1.cell (p := ⟨w.heap.size, 0, none⟩) (by simp)).trans (by go_simp)
    have BB := below_then (below_alloc _ _) (below_then B1 (below_alloc w1 (.cells #[.int .i64 k, .int .i64 f, .int .i64 R, .int .i64 S] 42)))
    clear B1
    go_wp2
    rw [Exit.noGoto_ret]
    go_ret2
    exact ⟨rfl, BB⟩
end Go.Proofs.Ytloldjmibjkkkaa

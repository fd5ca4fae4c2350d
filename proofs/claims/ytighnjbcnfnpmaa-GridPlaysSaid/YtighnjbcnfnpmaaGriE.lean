/- userplaneref17: Valid, Kind, Data, References. -/
import Derived.Test.YtighnjbcnfnpmaaGriD
import Derived.Test.YtighnjbcnfnpmaaSame17
namespace Go.Proofs.Ytighnjbcnfnpmaa
open Go.RowKit Go.Shelf
set_option linter.unusedVariables false
attribute [local go_sem ↓] Go.wp_at_zero Go.wp_at_succ
set_option maxHeartbeats 4000000 in
theorem refValid17 (b t l : Int) (w : World) : Calls Try.prog 10 #[CV b t l] w fun e w' => e = .returned (.bool (Gr.vld b t l)) ∧ Below w.heap.size w w' := by
  have HE := hid (show Gr.vld b t l = (decide (6 ≤ b) && decide (b ≤ 100) && (decide (1 ≤ t) && decide (t ≤ 3)) && (decide (0 ≤ l) && decide (l ≤ 503))) from rfl)
  have cs : (decide (6 ≤ b) = false ∧ Gr.vld b t l = false) ∨ (decide (6 ≤ b) = true ∧ decide (b ≤ 100) = false ∧ Gr.vld b t l = false) ∨ (decide (6 ≤ b) = true ∧ decide (b ≤ 100) = true ∧ decide (1 ≤ t) = false ∧ Gr.vld b t l = false) ∨
      (decide (6 ≤ b) = true ∧ decide (b ≤ 100) = true ∧ decide (1 ≤ t) = true ∧ decide (t ≤ 3) = false ∧ Gr.vld b t l = false) ∨ (decide (6 ≤ b) = true ∧ decide (b ≤ 100) = true ∧ decide (1 ≤ t) = true ∧ decide (t ≤ 3) = true ∧ decide (0 ≤ l) = false ∧ Gr.vld b t l = false) ∨
      (decide (6 ≤ b) = true ∧ decide (b ≤ 100) = true ∧ decide (1 ≤ t) = true ∧ decide (t ≤ 3) = true ∧ decide (0 ≤ l) = true ∧ decide (l ≤ 503) = Gr.vld b t l) := by
    rw [HE.out]
    cases decide (6 ≤ b) <;> cases decide (b ≤ 100) <;> cases decide (1 ≤ t) <;> cases decide (t ≤ 3) <;> cases decide (0 ≤ l) <;> cases decide (l ≤ 503) <;> simp
  clear HE
  obtain ⟨vv, hvv⟩ : ∃ vv, vv = Gr.vld b t l := ⟨_, rfl⟩
  rw [← hvv] at cs ⊢
  clear hvv
  rcases cs with ⟨d1, rfl⟩ | ⟨d1, d2, rfl⟩ | ⟨d1, d2, d3, rfl⟩ | ⟨d1, d2, d3, d4, rfl⟩ | ⟨d1, d2, d3, d4, d5, rfl⟩ | ⟨d1, d2, d3, d4, d5, d6⟩
  all_goals
    go_enter Try.func10, Try.ntmps10
    go_wp2
    go_ret
    exact ⟨rfl, below_alloc _ _⟩
set_option maxHeartbeats 4000000 in
theorem refKind17 (b t l : Int) (hc : Gr.Cf b t l) (i : Nat) (hi : (i : Int) < 168 * b) (w : World) : Calls Try.prog 14 #[CV b t l, .int .i64 i] w fun e w' => e = .returned (.int .i64 (Gr.kd b t l i)) ∧ Below w.heap.size w w' := by
  obtain ⟨b0, b1, t0, t1, l0, l1⟩ := hc
  have hne : ¬ 12 * b = 0 := by omega
  have hne2 : ((12 * b : Int) == 0) = false := by rw [beq_eq_false_iff_ne]; omega
  have hi0 : (0 : Int) ≤ i := by omega
  have h12 : (0 : Int) ≤ 12 * b := by omega
  have hq0 : 0 ≤ (i : Int) / (12 * b) := Int.ediv_nonneg hi0 h12
  have hq1 : (i : Int) / (12 * b) < 14 := Int.ediv_lt_of_lt_mul (by omega) (by omega)
  have hk0 : 0 ≤ (i : Int) % (12 * b) := Int.emod_nonneg _ (by omega)
  have hk1 : (i : Int) % (12 * b) < 12 * b := Int.emod_lt_of_pos _ (by omega)
  have e1 : IntKind.i64.wrap ((i : Int) / (12 * b)) = (i : Int) / (12 * b) := IntWalk.i64_in _ (by omega)
  have e2 : (i : Int).tmod (12 * b) = (i : Int) % (12 * b) := Int.tmod_eq_emod_of_nonneg hi0
  have HE := hid (show Gr.kd b t l i = if Gr.isr ((i : Int) / (12 * b)) ((i : Int) % (12 * b)) l = true then 1 else if (i : Int) / (12 * b) < t then 2 else 3 from rfl)
  go_enter Try.func14, Try.ntmps14
  go_wp2
  go_quiet (fail)
  generalize (i : Int) / (12 * b) = q at *
  generalize (i : Int) % (12 * b) = k at *
  have hisr : Gr.isr q k l = (((q == 0 || q == 7) && (k % 6 == l % 6)) || ((q == 4 || q == 11) && (k % 6 == (l + 3) % 6))) := rfl
  generalize h0 : (k % 6 == l % 6) = r0 at *
  generalize h3 : (k % 6 == (l + 3) % 6) = r3 at *
  obtain ⟨z, hz⟩ : ∃ z, z = Gr.kd b t l i := ⟨_, rfl⟩
  rw [← hz] at HE
  have HZ := hid hz
  clear hz
  have hw1 : (q = 0 ∧ r0 = true ∧ z = 1) ∨ (q = 0 ∧ r0 = false ∧ z = 2) ∨ (q = 4 ∧ r3 = true ∧ z = 1) ∨ (q = 4 ∧ r3 = false ∧ z = 3) ∨ (q = 7 ∧ r0 = true ∧ z = 1) ∨ (q = 7 ∧ r0 = false ∧ z = 3) ∨ (q = 11 ∧ r3 = true ∧ z = 1) ∨ (q = 11 ∧ r3 = false ∧ z = 3) ∨
      ((q == 0) = false ∧ (q == 4) = false ∧ (q == 7) = false ∧ (q == 11) = false ∧ decide (q < t) = true ∧ z = 2) ∨ ((q == 0) = false ∧ (q == 4) = false ∧ (q == 7) = false ∧ (q == 11) = false ∧ decide (q < t) = false ∧ z = 3) := by
    have hE := HE.out
    rw [hisr] at hE
    by_cases a0 : q = 0
    · subst a0
      cases r0
      · simp [show (0 : Int) < t by omega] at hE; simp [hE]
      · simp at hE; simp [hE]
    by_cases a4 : q = 4
    · subst a4
      cases r3
      · simp [show ¬ (4 : Int) < t by omega] at hE; simp [hE]
      · simp at hE; simp [hE]
    by_cases a7 : q = 7
    · subst a7
      cases r0
      · simp [show ¬ (7 : Int) < t by omega] at hE; simp [hE]
      · simp at hE; simp [hE]
    by_cases a11 : q = 11
    · subst a11
      cases r3
      · simp [show ¬ (11 : Int) < t by omega] at hE; simp [hE]
      · simp at hE; simp [hE]
    by_cases hlt : q < t
    · simp [a0, a4, a7, a11, hlt] at hE; simp [a0, a4, a7, a11, hlt, hE]
    · simp [a0, a4, a7, a11, hlt] at hE; simp [a0, a4, a7, a11, hlt, hE]
  clear hisr HE hne hne2 hi0 h12 e1 e2
  rcases hw1 with ⟨rfl, rfl, rfl⟩ | ⟨rfl, rfl, rfl⟩ | ⟨rfl, rfl, rfl⟩ | ⟨rfl, rfl, rfl⟩ | ⟨rfl, rfl, rfl⟩ | ⟨rfl, rfl, rfl⟩ | ⟨rfl, rfl, rfl⟩ | ⟨rfl, rfl, rfl⟩ | ⟨g0, g4, g7, g11, gl, rfl⟩ | ⟨g0, g4, g7, g11, gl, rfl⟩
  all_goals
    go_wp2
    go_ret
    exact ⟨ret_int HZ.out, (below_alloc _ _).trans ((below_drewN _ _).mono (by simp))⟩
theorem same17_true (w : World) (va vb : Value) (A : List Int) (ha : Vw w va (A.map (Value.int .i64))) (hb : Vw w vb (A.map (Value.int .i64))) (hl : A.length ≤ 100000000) :
    Calls Try.prog 18 #[va, vb] w fun r w' => r = .returned (.bool true) ∧ Below w.heap.size w w' := by
  have H := same17_any w va vb A A ha hb (by omega) (by omega)
  rw [decide_eq_true rfl] at H
  exact H.mono fun e w' ⟨h1, m, h2⟩ => ⟨h1, by subst h2; exact below_drewN _ m⟩
theorem num17_any (e : Int) (w : World) : Calls Try.prog 12 #[.int .i64 e] w fun r w' => r = .returned (.int .i64 e) ∧ w = w' := by
  go_enter Try.func12, Try.ntmps12
  go_wp2
  go_ret
  exact ⟨rfl, rfl⟩
end Go.Proofs.Ytighnjbcnfnpmaa

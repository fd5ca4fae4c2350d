/- userplaneref18: New, Step, Event, Disturbance. -/
import Derived.Test.YtngggknejkcepaaNoiC
namespace Go.Proofs.Ytngggknejkcepaa
open Go.RowKit Go.Shelf
set_option linter.unusedVariables false
/-- The reference's Noise. -/
abbrev NV (f e s : Int) (x : Nat) : Value := .agg #[.int .i64 f, .int .i64 e, .int .i64 s, .int .u64 (x : Nat)]
set_option maxHeartbeats 1000000 in
theorem refNew_ok (w : World) (f e s : Int) (x : Nat) (hc : Ch f e s) :
    Calls Try.prog 30 #[.agg #[.int .i64 f, .int .i64 e, .int .i64 s], .int .u64 (x : Nat)] w fun r w' => r = .returned (.tuple #[NV f e s (Noi.seed0 x), .int .i64 0]) ∧ Below w.heap.size w w' := by
  obtain ⟨f0, e0, fe, s0, s1⟩ := hc
  have hS := hid (show Noi.seed0 x = if x = 0 then 88172645463325252 else x from rfl)
  have k1 : decide (f < 0) = false := by simp; omega
  have k2 : decide (1024 < f) = false := by simp; omega
  have k3 : decide (e < 0) = false := by simp; omega
  have k4 : decide (1024 < e) = false := by simp; omega
  have k5 : decide (1024 < f + e) = false := by simp; omega
  have k6 : decide (s < 0) = false := by simp; omega
  have k7 : decide (127 < s) = false := by simp; omega
  have hw : IntKind.i64.wrap (f + e) = f + e := IntWalk.i64_in _ (by omega)
  have key : ∀ (b : Bool), decide (x = 0) = b → Calls Try.prog 30 #[.agg #[.int .i64 f, .int .i64 e, .int .i64 s], .int .u64 (x : Nat)] w fun r w' => r = .returned (.tuple #[NV f e s (if b = true then 88172645463325252 else x), .int .i64 0]) ∧ Below w.heap.size w w' := by
    intro b hb
    cases b
    all_goals
      first
        | have hd : ((x : Int) == 0) = true := by have := of_decide_eq_true hb; simp [this]
        | have hd : ((x : Int) == 0) = false := by have := of_decide_eq_false hb; rw [beq_eq_false_iff_ne]; omega
      clear hb
      go_enter Try.func30, Try.ntmps30
      go_wp2
      first
        | exact bodyPost_ret (v := .tuple #[NV f e s 88172645463325252, .int .i64 0]) (by simp [results, Try.results30, go_sem]) rfl ⟨rfl, (below_alloc _ _).alloc (by simp) _⟩
        | exact bodyPost_ret (v := .tuple #[NV f e s x, .int .i64 0]) (by simp [results, Try.results30, go_sem]) rfl ⟨rfl, (below_alloc _ _).alloc (by simp) _⟩
  have := key _ rfl
  rw [hS.out]
  by_cases h0 : x = 0
  · rw [decide_eq_true h0] at this; rw [if_pos h0]; exact this
  · rw [decide_eq_false h0] at this; rw [if_neg h0]; exact this
set_option maxHeartbeats 4000000 in
theorem refNew_bad (w : World) (f e s : Int) (x : Nat) (hc : ¬ Ch f e s) :
    Calls Try.prog 30 #[.agg #[.int .i64 f, .int .i64 e, .int .i64 s], .int .u64 (x : Nat)] w fun r w' => r = .returned (.tuple #[NV 0 0 0 0, .int .i64 2]) ∧ Below w.heap.size w w' := by
  by_cases h1 : f < 0
  · have k1 : decide (f < 0) = true := decide_eq_true h1
    clear h1 hc
    go_enter Try.func30, Try.ntmps30
    go_wp2
    exact bodyPost_ret (v := .tuple #[NV 0 0 0 0, .int .i64 2]) (by simp [results, Try.results30, go_sem]) rfl ⟨rfl, (below_alloc _ _).alloc (by simp) _⟩
  have k1 : decide (f < 0) = false := decide_eq_false h1
  by_cases h2 : 1024 < f
  · have k2 : decide (1024 < f) = true := decide_eq_true h2
    clear h1 h2 hc
    go_enter Try.func30, Try.ntmps30
    go_wp2
    exact bodyPost_ret (v := .tuple #[NV 0 0 0 0, .int .i64 2]) (by simp [results, Try.results30, go_sem]) rfl ⟨rfl, (below_alloc _ _).alloc (by simp) _⟩
  have k2 : decide (1024 < f) = false := decide_eq_false h2
  by_cases h3 : e < 0
  · have k3 : decide (e < 0) = true := decide_eq_true h3
    clear h1 h2 h3 hc
    go_enter Try.func30, Try.ntmps30
    go_wp2
    exact bodyPost_ret (v := .tuple #[NV 0 0 0 0, .int .i64 2]) (by simp [results, Try.results30, go_sem]) rfl ⟨rfl, (below_alloc _ _).alloc (by simp) _⟩
  have k3 : decide (e < 0) = false := decide_eq_false h3
  by_cases h4 : 1024 < e
  · have k4 : decide (1024 < e) = true := decide_eq_true h4
    clear h1 h2 h3 h4 hc
    go_enter Try.func30, Try.ntmps30
    go_wp2
    exact bodyPost_ret (v := .tuple #[NV 0 0 0 0, .int .i64 2]) (by simp [results, Try.results30, go_sem]) rfl ⟨rfl, (below_alloc _ _).alloc (by simp) _⟩
  have k4 : decide (1024 < e) = false := decide_eq_false h4
  have hw : IntKind.i64.wrap (f + e) = f + e := IntWalk.i64_in _ (by omega)
  by_cases h5 : 1024 < f + e
  · have k5 : decide (1024 < f + e) = true := decide_eq_true h5
    clear h1 h2 h3 h4 h5 hc
    go_enter Try.func30, Try.ntmps30
    go_wp2
    exact bodyPost_ret (v := .tuple #[NV 0 0 0 0, .int .i64 2]) (by simp [results, Try.results30, go_sem]) rfl ⟨rfl, (below_alloc _ _).alloc (by simp) _⟩
  have k5 : decide (1024 < f + e) = false := decide_eq_false h5
  by_cases h6 : s < 0
  · have k6 : decide (s < 0) = true := decide_eq_true h6
    clear h1 h2 h3 h4 h5 h6 hc
    go_enter Try.func30, Try.ntmps30
    go_wp2
    exact bodyPost_ret (v := .tuple #[NV 0 0 0 0, .int .i64 2]) (by simp [results, Try.results30, go_sem]) rfl ⟨rfl, (below_alloc _ _).alloc (by simp) _⟩
  have k6 : decide (s < 0) = false := decide_eq_false h6
  by_cases h7 : 127 < s
  · have k7 : decide (127 < s) = true := decide_eq_true h7
    clear h1 h2 h3 h4 h5 h6 h7 hc
    go_enter Try.func30, Try.ntmps30
    go_wp2
    exact bodyPost_ret (v := .tuple #[NV 0 0 0 0, .int .i64 2]) (by simp [results, Try.results30, go_sem]) rfl ⟨rfl, (below_alloc _ _).alloc (by simp) _⟩
  have k7 : decide (127 < s) = false := decide_eq_false h7
  exact absurd ⟨by omega, by omega, by omega, by omega, by omega⟩ hc
theorem refStep_any (w : World) (f e s : Int) (x : Nat) (hx : x < Noi.M) :
    Calls Try.prog 15 #[NV f e s x] w fun r w' => r = .returned (NV f e s (Noi.step x)) ∧ Below w.heap.size w w' := by
  have h1 := hid (Noi.s1_cast hx)
  have h2 := hid (Noi.s2_cast (Noi.s1_lt hx))
  have h3 := hid (show _ = ((Noi.step x : Nat) : Int) from Noi.s3_cast (Noi.s2_lt (Noi.s1_lt hx)))
  have ht := hid (show IntKind.u64.wrap ((Noi.s1 x : Int).tdiv 128) = (Noi.s1 x : Int) / 128 by
    have := Noi.s1_lt hx
    unfold Noi.M at this
    rw [Int.tdiv_eq_ediv_of_nonneg (by omega)]
    exact IntWalk.u64_in _ (by omega))
  clear hx
  go_enter Try.func15, Try.ntmps15
  go_wp2
  rw [h1.out, ht.out, h2.out, h3.out]
  exact bodyPost_ret (v := NV f e s (Noi.step x)) (by simp [results, Try.results15, go_sem]) rfl ⟨rfl, (below_alloc _ _).alloc (by simp) _⟩
set_option maxHeartbeats 1000000 in
theorem refEvent_any (w : World) (f e s : Int) (y : Nat) (hc : Ch f e s) :
    Calls Try.prog 17 #[NV f e s y] w fun r w' => r = .returned (.int .i64 (Noi.evt f e y)) ∧ Below w.heap.size w w' := by
  obtain ⟨f0, e0, fe, s0, s1⟩ := hc
  have HE := hid (show Noi.evt f e y = if (y : Int) % 1024 < f then 1 else if (y : Int) % 1024 < f + e then 2 else 0 from rfl)
  have m0 : 0 ≤ (y : Int) % 1024 := by omega
  have m1 : (y : Int) % 1024 < 1024 := by omega
  have hw : IntKind.i64.wrap (f + e) = f + e := IntWalk.i64_in _ (by omega)
  by_cases h1 : (y : Int) % 1024 < f
  · have hd1 : decide ((y : Int) % 1024 < f) = true := by simpa using h1
    have HH := hid h1
    clear h1
    go_enter Try.func17, Try.ntmps17
    go_wp2
    go_ret
    exact ⟨ret_int (by rw [HE.out, if_pos HH.out]), below_alloc _ _⟩
  · have hd1 : decide ((y : Int) % 1024 < f) = false := by simpa using h1
    by_cases h2 : (y : Int) % 1024 < f + e
    · have hd2 : decide ((y : Int) % 1024 < f + e) = true := decide_eq_true h2
      have HH := hid h1
      have HH2 := hid h2
      clear h1 h2
      go_enter Try.func17, Try.ntmps17
      go_wp2
      go_ret
      exact ⟨ret_int (by rw [HE.out, if_neg (by have := HH.out; omega), if_pos HH2.out]), below_alloc _ _⟩
    · have hd2 : decide ((y : Int) % 1024 < f + e) = false := decide_eq_false h2
      have HH := hid h1
      have HH2 := hid h2
      clear h1 h2
      go_enter Try.func17, Try.ntmps17
      go_wp2
      go_ret
      exact ⟨ret_int (by rw [HE.out, if_neg (by have := HH.out; omega), if_neg (by have := HH2.out; omega)]), below_alloc _ _⟩
set_option maxHeartbeats 1000000 in
theorem refDist_any (w : World) (f e s : Int) (y : Nat) (hc : Ch f e s) :
    Calls Try.prog 44 #[NV f e s y] w fun r w' => r = .returned (.int .i64 (Noi.dis s y)) ∧ Below w.heap.size w w' := by
  obtain ⟨f0, e0, fe, s0, s1⟩ := hc
  have HE := hid (show Noi.dis s y = (y : Int) % (2 * s + 1) - s from rfl)
  have m0 : 0 ≤ (y : Int) % (2 * s + 1) := Int.emod_nonneg _ (by omega)
  have m1 : (y : Int) % (2 * s + 1) < 2 * s + 1 := Int.emod_lt_of_pos _ (by omega)
  have hw1 : IntKind.i64.wrap (2 * s) = 2 * s := IntWalk.i64_in _ (by omega)
  have hw2 : IntKind.i64.wrap (2 * s + 1) = 2 * s + 1 := IntWalk.i64_in _ (by omega)
  have hw3 : IntKind.u64.wrap (2 * s + 1) = 2 * s + 1 := IntWalk.u64_in _ (by omega)
  have hn2 : ((2 * s + 1 : Int) == 0) = false := by rw [beq_eq_false_iff_ne]; omega
  have hne : ¬ 2 * s + 1 = 0 := by omega
  go_enter Try.func44, Try.ntmps44
  go_wp2
  go_quiet (fail)
  go_wp2
  go_ret
  exact ⟨ret_int HE.out.symm, (below_alloc _ _).trans ⟨rfl, rfl, rfl, Nat.le_refl _, fun _ _ => rfl⟩⟩
end Go.Proofs.Ytngggknejkcepaa

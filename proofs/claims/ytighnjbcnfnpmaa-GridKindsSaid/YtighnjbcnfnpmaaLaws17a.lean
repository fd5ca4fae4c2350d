/- userplanelaw17.GridKinds, GridData. -/
import Derived.Test.YtighnjbcnfnpmaaGriW
namespace Go.Proofs.Ytighnjbcnfnpmaa
open Go.RowKit Go.Shelf
set_option linter.unusedVariables false
attribute [local go_sem ↓] Go.wp_at_zero Go.wp_at_succ
set_option maxHeartbeats 4000000 in
theorem law_GridData (b t l first blocks : Int) (wb : (Lit.int .i64 b).wf = true) (wt : (Lit.int .i64 t).wf = true) (wl : (Lit.int .i64 l).wf = true) (wf : (Lit.int .i64 first).wf = true) (wk : (Lit.int .i64 blocks).wf = true) (w : World) :
    Calls Try.prog 4 #[CV b t l, .int .i64 first, .int .i64 blocks] w fun e w' => e = .returned (.bool true) ∧ Below w.heap.size w w' := by
  have K1 := hid (data_any b t l first blocks wb wf wk)
  have K2 := hid (refData17_any b t l first blocks)
  have HL := hid (Gr.dat_len b t l first blocks)
  have HL2 := hid (show (Gr.datL b t l first blocks).length ≤ 100000000 by
    cases h : Gr.datOk b t l first blocks with
    | false => rw [show Gr.datL b t l first blocks = [] from if_neg (by simp [h])]; simp
    | true =>
      simp only [Gr.datOk, Bool.and_eq_true, decide_eq_true_eq] at h
      have := (Gr.vld_iff.1 h.1.1.1.1).b1
      have := HL.out
      omega)
  generalize Gr.datL b t l first blocks = L at *
  generalize Gr.datE b t l first blocks = er at *
  clear wb wt wl wf wk HL
  go_enter Try.func4, Try.ntmps4
  go_wp2_with fail
  refine (K1.out _).mono ?_
  rintro r w1 ⟨⟨va, rfl, hVa⟩, B⟩
  have HC1 := hid (show Blk w1 w.heap.size 23 #[.int .i64 b, .int .i64 t, .int .i64 l] from Blk.below (Blk.new w _ _) B (by simp))
  have HB1 := hid (up_alloc B)
  have HV1 := hid hVa
  clear B hVa
  have c0 : w1.cell? ⟨w.heap.size, 0, none⟩ = some (.int .i64 b) := HC1.out.cell 0
  have c1 : w1.cell? ⟨w.heap.size, 1, none⟩ = some (.int .i64 t) := HC1.out.cell 1
  have c2 : w1.cell? ⟨w.heap.size, 2, none⟩ = some (.int .i64 l) := HC1.out.cell 2
  go_wp2_with fail
  refine (K2.out _).mono ?_
  rintro r w2 ⟨⟨vb, rfl, hVb⟩, B⟩
  have HB2 := hid (below_then HB1.out B)
  have HS := hid (same17_true w2 va vb L (HV1.out.below B (Nat.le_refl _)).vw hVb.vw HL2.out)
  clear hVb B
  go_wp2_with fail
  refine HS.out.mono ?_
  rintro r w3 ⟨rfl, B⟩
  have HB3 := hid (below_then HB2.out B)
  clear B c0 c1 c2
  go_wp2_with (first
    | (go_at_call 12; refine (num17_any _ _).mono ?_; rintro r w' ⟨rfl, rfl⟩)
    | (go_at_call 15; refine (works17 _).mono ?_; rintro r w4 ⟨rfl, B⟩))
  go_ret
  exact ⟨rfl, below_then HB3.out B⟩
set_option maxHeartbeats 4000000 in
theorem law_GridKinds (b t l i : Int) (wb : (Lit.int .i64 b).wf = true) (wt : (Lit.int .i64 t).wf = true) (wl : (Lit.int .i64 l).wf = true) (wi : (Lit.int .i64 i).wf = true) (w : World) :
    Calls Try.prog 3 #[CV b t l, .int .i64 i] w fun e w' => e = .returned (.bool true) ∧ Below w.heap.size w w' := by
  have K1 := hid (refValid17 b t l)
  have K2 := hid (check_any b t l)
  have cs : (Gr.vld b t l = false) ∨ (Gr.vld b t l = true ∧ i < 0 ∧ 6 ≤ b ∧ b ≤ 100) ∨ (Gr.vld b t l = true ∧ 0 ≤ i ∧ 168 * b ≤ i ∧ 6 ≤ b ∧ b ≤ 100) ∨ (Gr.vld b t l = true ∧ 0 ≤ i ∧ i < 168 * b ∧ 6 ≤ b ∧ b ≤ 100) := by
    cases h : Gr.vld b t l
    · left; rfl
    · have hc := Gr.vld_iff.1 h
      have := hc.b0
      have := hc.b1
      by_cases h1 : i < 0
      · right; left; exact ⟨rfl, by omega, by omega, by omega⟩
      · by_cases h2 : i < 168 * b
        · right; right; right; exact ⟨rfl, by omega, by omega, by omega, by omega⟩
        · right; right; left; exact ⟨rfl, by omega, by omega, by omega, by omega⟩
  rcases cs with h | ⟨h, i0, b0, b1⟩ | ⟨h, i0, i1, b0, b1⟩ | ⟨h, i0, i1, b0, b1⟩
  · have K3 := hid (fun w => kindF_bad b t l i w h)
    rw [h] at K1
    rw [h, if_neg (by simp)] at K2
    clear h wb wt wl wi
    go_enter Try.func3, Try.ntmps3
    go_wp2_with fail
    refine (K1.out _).mono ?_
    rintro r w1 ⟨rfl, B⟩
    have HC1 := hid (show Blk w1 w.heap.size 23 #[.int .i64 b, .int .i64 t, .int .i64 l] from Blk.below (Blk.new w _ _) B (by simp))
    have HB1 := hid (up_alloc B)
    clear B
    have c0 : w1.cell? ⟨w.heap.size, 0, none⟩ = some (.int .i64 b) := HC1.out.cell 0
    have c1 : w1.cell? ⟨w.heap.size, 1, none⟩ = some (.int .i64 t) := HC1.out.cell 1
    have c2 : w1.cell? ⟨w.heap.size, 2, none⟩ = some (.int .i64 l) := HC1.out.cell 2
    go_wp2_with fail
    refine (K3.out _).mono ?_
    rintro r w2 ⟨rfl, B⟩
    have HC2 := hid (HC1.out.below B HC1.out.lt)
    have HB2 := hid (below_then HB1.out B)
    clear B c0 c1 c2
    have c0 : w2.cell? ⟨w.heap.size, 0, none⟩ = some (.int .i64 b) := HC2.out.cell 0
    have c1 : w2.cell? ⟨w.heap.size, 1, none⟩ = some (.int .i64 t) := HC2.out.cell 1
    have c2 : w2.cell? ⟨w.heap.size, 2, none⟩ = some (.int .i64 l) := HC2.out.cell 2
    go_wp2_with fail
    refine (K2.out _).mono ?_
    rintro r w3 ⟨rfl, B⟩
    have HB3 := hid (below_then HB2.out B)
    clear B c0 c1 c2
    go_wp2_with (first
      | (go_at_call 12; refine (num17_any _ _).mono ?_; rintro r w' ⟨rfl, rfl⟩)
      | (go_at_call 15; refine (works17 _).mono ?_; rintro r w4 ⟨rfl, B⟩))
    go_ret
    exact ⟨rfl, below_then HB3.out B⟩
  · have K3 := hid (fun w => kindF_out b t l i w h (by omega))
    rw [h] at K1
    rw [h, if_pos rfl] at K2
    have hd : decide (i < 0) = true := decide_eq_true i0
    clear h wb wt wl wi
    go_enter Try.func3, Try.ntmps3
    go_wp2_with fail
    refine (K1.out _).mono ?_
    rintro r w1 ⟨rfl, B⟩
    have HC1 := hid (show Blk w1 w.heap.size 23 #[.int .i64 b, .int .i64 t, .int .i64 l] from Blk.below (Blk.new w _ _) B (by simp))
    have HB1 := hid (up_alloc B)
    clear B
    have c0 : w1.cell? ⟨w.heap.size, 0, none⟩ = some (.int .i64 b) := HC1.out.cell 0
    have c1 : w1.cell? ⟨w.heap.size, 1, none⟩ = some (.int .i64 t) := HC1.out.cell 1
    have c2 : w1.cell? ⟨w.heap.size, 2, none⟩ = some (.int .i64 l) := HC1.out.cell 2
    go_wp2_with fail
    refine (K3.out _).mono ?_
    rintro r w2 ⟨rfl, B⟩
    have HC2 := hid (HC1.out.below B HC1.out.lt)
    have HB2 := hid (below_then HB1.out B)
    clear B c0 c1 c2
    have c0 : w2.cell? ⟨w.heap.size, 0, none⟩ = some (.int .i64 b) := HC2.out.cell 0
    have c1 : w2.cell? ⟨w.heap.size, 1, none⟩ = some (.int .i64 t) := HC2.out.cell 1
    have c2 : w2.cell? ⟨w.heap.size, 2, none⟩ = some (.int .i64 l) := HC2.out.cell 2
    go_wp2_with fail
    refine (K2.out _).mono ?_
    rintro r w3 ⟨rfl, B⟩
    have HB3 := hid (below_then HB2.out B)
    clear B c0 c1 c2
    go_wp2_with (first
      | (go_at_call 12; refine (num17_any _ _).mono ?_; rintro r w' ⟨rfl, rfl⟩)
      | (go_at_call 15; refine (works17 _).mono ?_; rintro r w4 ⟨rfl, B⟩))
    go_ret
    exact ⟨rfl, below_then HB3.out B⟩
  · have K3 := hid (fun w => kindF_out b t l i w h (by omega))
    rw [h] at K1
    rw [h, if_pos rfl] at K2
    have hd : decide (i < 0) = false := decide_eq_false (by omega)
    have h168 : IntKind.i64.wrap (168 * b) = 168 * b := IntWalk.i64_in _ (by omega)
    have hd2 : decide (168 * b ≤ i) = true := decide_eq_true i1
    clear h wb wt wl wi
    go_enter Try.func3, Try.ntmps3
    go_wp2_with fail
    refine (K1.out _).mono ?_
    rintro r w1 ⟨rfl, B⟩
    have HC1 := hid (show Blk w1 w.heap.size 23 #[.int .i64 b, .int .i64 t, .int .i64 l] from Blk.below (Blk.new w _ _) B (by simp))
    have HB1 := hid (up_alloc B)
    clear B
    have c0 : w1.cell? ⟨w.heap.size, 0, none⟩ = some (.int .i64 b) := HC1.out.cell 0
    have c1 : w1.cell? ⟨w.heap.size, 1, none⟩ = some (.int .i64 t) := HC1.out.cell 1
    have c2 : w1.cell? ⟨w.heap.size, 2, none⟩ = some (.int .i64 l) := HC1.out.cell 2
    go_wp2_with fail
    refine (K3.out _).mono ?_
    rintro r w2 ⟨rfl, B⟩
    have HC2 := hid (HC1.out.below B HC1.out.lt)
    have HB2 := hid (below_then HB1.out B)
    clear B c0 c1 c2
    have c0 : w2.cell? ⟨w.heap.size, 0, none⟩ = some (.int .i64 b) := HC2.out.cell 0
    have c1 : w2.cell? ⟨w.heap.size, 1, none⟩ = some (.int .i64 t) := HC2.out.cell 1
    have c2 : w2.cell? ⟨w.heap.size, 2, none⟩ = some (.int .i64 l) := HC2.out.cell 2
    go_wp2_with fail
    refine (K2.out _).mono ?_
    rintro r w3 ⟨rfl, B⟩
    have HC3 := hid (HC2.out.below B HC2.out.lt)
    have HB3 := hid (below_then HB2.out B)
    clear B c0 c1 c2
    have c0 : w3.cell? ⟨w.heap.size, 0, none⟩ = some (.int .i64 b) := HC3.out.cell 0
    have c1 : w3.cell? ⟨w.heap.size, 1, none⟩ = some (.int .i64 t) := HC3.out.cell 1
    have c2 : w3.cell? ⟨w.heap.size, 2, none⟩ = some (.int .i64 l) := HC3.out.cell 2
    go_wp2_with (first
      | (go_at_call 12; refine (num17_any _ _).mono ?_; rintro r w' ⟨rfl, rfl⟩)
      | (go_at_call 15; refine (works17 _).mono ?_; rintro r w4 ⟨rfl, B⟩))
    go_ret
    exact ⟨rfl, below_then HB3.out B⟩
  · obtain ⟨i, rfl⟩ := Int.eq_ofNat_of_zero_le i0
    have K3 := hid (fun w => kindF_ok b t l i w h i1)
    rw [h] at K1
    rw [h, if_pos rfl] at K2
    have hd : decide (i < 0) = false := decide_eq_false (by omega)
    have h168 : IntKind.i64.wrap (168 * b) = 168 * b := IntWalk.i64_in _ (by omega)
    have hd2 : decide (168 * b ≤ i) = false := decide_eq_false (by omega)
    have K4 := hid (fun w => refKind17 b t l (Gr.vld_iff.1 h) i i1 w)
    generalize Gr.kd b t l i = z at *
    clear h wb wt wl wi
    go_enter Try.func3, Try.ntmps3
    go_wp2_with fail
    refine (K1.out _).mono ?_
    rintro r w1 ⟨rfl, B⟩
    have HC1 := hid (show Blk w1 w.heap.size 23 #[.int .i64 b, .int .i64 t, .int .i64 l] from Blk.below (Blk.new w _ _) B (by simp))
    have HB1 := hid (up_alloc B)
    clear B
    have c0 : w1.cell? ⟨w.heap.size, 0, none⟩ = some (.int .i64 b) := HC1.out.cell 0
    have c1 : w1.cell? ⟨w.heap.size, 1, none⟩ = some (.int .i64 t) := HC1.out.cell 1
    have c2 : w1.cell? ⟨w.heap.size, 2, none⟩ = some (.int .i64 l) := HC1.out.cell 2
    go_wp2_with fail
    refine (K3.out _).mono ?_
    rintro r w2 ⟨rfl, B⟩
    have HC2 := hid (HC1.out.below B HC1.out.lt)
    have HB2 := hid (below_then HB1.out B)
    clear B c0 c1 c2
    have c0 : w2.cell? ⟨w.heap.size, 0, none⟩ = some (.int .i64 b) := HC2.out.cell 0
    have c1 : w2.cell? ⟨w.heap.size, 1, none⟩ = some (.int .i64 t) := HC2.out.cell 1
    have c2 : w2.cell? ⟨w.heap.size, 2, none⟩ = some (.int .i64 l) := HC2.out.cell 2
    go_wp2_with fail
    refine (K2.out _).mono ?_
    rintro r w3 ⟨rfl, B⟩
    have HC3 := hid (HC2.out.below B HC2.out.lt)
    have HB3 := hid (below_then HB2.out B)
    clear B c0 c1 c2
    have c0 : w3.cell? ⟨w.heap.size, 0, none⟩ = some (.int .i64 b) := HC3.out.cell 0
    have c1 : w3.cell? ⟨w.heap.size, 1, none⟩ = some (.int .i64 t) := HC3.out.cell 1
    have c2 : w3.cell? ⟨w.heap.size, 2, none⟩ = some (.int .i64 l) := HC3.out.cell 2
    go_wp2_with (first
      | (go_at_call 14; refine (K4.out _).mono ?_; rintro r w5 ⟨rfl, B5⟩)
      | (go_at_call 12; refine (num17_any _ _).mono ?_; rintro r w' ⟨rfl, rfl⟩)
      | (go_at_call 15; refine (works17 _).mono ?_; rintro r w4 ⟨rfl, B⟩))
    go_ret
    exact ⟨rfl, below_then (below_then HB3.out B5) B⟩
end Go.Proofs.Ytighnjbcnfnpmaa

/- userplane/ratematch: Positions, every way. -/
import Derived.Test.YtloldjmibjkkkaaRmH
namespace Go.Proofs.Ytloldjmibjkkkaa
open Go.RowKit Go.Shelf
set_option linter.unusedVariables false
attribute [local go_sem] Oper.semAt_some
set_option maxHeartbeats 1000000 in
theorem rmPos_zero (k f rv n : Nat) (limit : Int) (hk1 : 40 ≤ k) (hk2 : k ≤ 6144) (hf : f < k) (hl : 1 ≤ limit) (hrv : rv ≤ 3) (hn : n ≤ 131072) (R S : Nat) (L : List Int) (hR : R = Rm.rows k) (hS : S = Rm.size k limit) (hL : L = Rm.buf k f R S) (hn0 : n = 0) (hu : True) (w : World) :
    Calls Try.prog 19 #[.int .i64 k, .int .i64 f, .int .i64 limit, .int .i64 rv, .int .i64 n] w fun e w' => e = .returned (.tuple #[.slice none 0 0, .int .i64 0]) ∧ Below w.heap.size w w' := by
  have hr := Rm.rows_bd hk1 hk2
  have hs := Rm.size_bd (k := k) hl hk1
  rw [← hR] at hr hs
  rw [← hS] at hs
  have C := hid (rmOf_ok k f limit hk1 hk2 hf hl)
  rw [← hR, ← hS] at C
  have CB := hid (fun w => buffer_any k f R S hk1 hk2 hf hr.2.2.1 hr.2.2.2 hs.2 w)
  rw [← hL] at CB
  have HL := hid (show L.length = S by rw [hL]; exact Rm.buf_len hs.2)
  have hSb : S ≤ 20000 := by omega
  have hS1 := hs.1
  clear hR hS hL hu hr hs
  unfold wordV at CB
  have e1 : ¬ (rv : Int) < 0 := by omega
  have e2 : ¬ (3 : Int) < (rv : Int) := by omega
  have e3 : ¬ (n : Int) < 0 := by omega
  have e4 : ¬ (131072 : Int) < (n : Int) := by omega
  have e5 : ((n : Int) == 0) = true := by rw [beq_iff_eq]; omega
  refine calls_of_wp_marks Try.func19 rfl ?_
  simp only [Try.ntmps19, List.size_toArray, List.length_cons, List.length_nil, Nat.reduceAdd, Nat.reduceSub, Array.replicate_succ, Array.replicate_zero, List.push_toArray, List.append_toArray, List.nil_append, List.cons_append]
  go_wp2
  go_step3
  go_wp2_with fail
  refine (C.out _).mono ?_
  rintro e w1 ⟨rfl, B1⟩
  have hlt1 : w.heap.size < w1.heap.size := by have := B1.size; simp at this; omega
  have hce : w1.cell? ⟨w.heap.size, 0, none⟩ = some (.int .i64 n) := (B1.cell (p := ⟨w.heap.size, 0, none⟩) (by simp)).trans (by go_simp)
  have BB := below_then (below_alloc _ _) B1
  clear B1
  go_wp2_with fail
  refine (CB.out _).mono ?_
  rintro e w2 ⟨⟨v2, rfl, V2⟩, B2⟩
  have hlt2 : w1.heap.size < w2.heap.size := by have := B2.size; simp at this; omega
  have hce2 : w2.cell? ⟨w.heap.size, 0, none⟩ = some (.int .i64 n) := (B2.cell (p := ⟨w.heap.size, 0, none⟩) (by simp; omega)).trans (by go_simp)
  have hcw : w2.cell? ⟨w1.heap.size, 0, none⟩ = some (.int .i64 k) ∧ w2.cell? ⟨w1.heap.size, 1, none⟩ = some (.int .i64 f) ∧ w2.cell? ⟨w1.heap.size, 2, none⟩ = some (.int .i64 R) ∧ w2.cell? ⟨w1.heap.size, 3, none⟩ = some (.int .i64 S) :=
    ⟨(B2.cell (p := ⟨w1.heap.size, 0, none⟩) (by simp)).trans (by go_simp), (B2.cell (p := ⟨w1.heap.size, 1, none⟩) (by simp)).trans (by go_simp), (B2.cell (p := ⟨w1.heap.size, 2, none⟩) (by simp)).trans (by go_simp), (B2.cell (p := ⟨w1.heap.size, 3, none⟩) (by simp)).trans (by go_simp)⟩
  obtain ⟨hcw0, hcw1, hcw2, hcw3⟩ := hcw
  go_wp2
  exact bodyPostM_ret0 rfl (results_tmp2 rfl _ _ _) ⟨rfl, below_then BB (below_then (below_alloc _ _) B2)⟩
set_option maxHeartbeats 1000000 in
theorem rmPos_none (k f rv n : Nat) (limit : Int) (hk1 : 40 ≤ k) (hk2 : k ≤ 6144) (hf : f < k) (hl : 1 ≤ limit) (hrv : rv ≤ 3) (hn : n ≤ 131072) (R S : Nat) (L : List Int) (hR : R = Rm.rows k) (hS : S = Rm.size k limit) (hL : L = Rm.buf k f R S) (hn0 : 1 ≤ n) (hu : Rm.cnt L L.length = 0) (w : World) :
    Calls Try.prog 19 #[.int .i64 k, .int .i64 f, .int .i64 limit, .int .i64 rv, .int .i64 n] w fun e w' => e = .returned (.tuple #[.slice none 0 0, .int .i64 10]) ∧ Below w.heap.size w w' := by
  have hr := Rm.rows_bd hk1 hk2
  have hs := Rm.size_bd (k := k) hl hk1
  rw [← hR] at hr hs
  rw [← hS] at hs
  have C := hid (rmOf_ok k f limit hk1 hk2 hf hl)
  rw [← hR, ← hS] at C
  have CB := hid (fun w => buffer_any k f R S hk1 hk2 hf hr.2.2.1 hr.2.2.2 hs.2 w)
  rw [← hL] at CB
  have HL := hid (show L.length = S by rw [hL]; exact Rm.buf_len hs.2)
  have CU := hid (show ∀ w v, Vw w v (L.map (Value.int .i64)) → Calls Try.prog 31 #[v, .func (.func 26) #[] #[]] w fun e w' => e = .returned (.bool false) ∧ w = w' from fun w v h => by
    have := anyU_any w v L h (by rw [HL.out]; omega)
    rwa [Rm.anyU_eq, decide_eq_false (fun h => h hu)] at this)
  have hSb : S ≤ 20000 := by omega
  have hS1 := hs.1
  clear hR hS hL hu hr hs
  unfold wordV at CB
  have e1 : ¬ (rv : Int) < 0 := by omega
  have e2 : ¬ (3 : Int) < (rv : Int) := by omega
  have e3 : ¬ (n : Int) < 0 := by omega
  have e4 : ¬ (131072 : Int) < (n : Int) := by omega
  have e5 : ((n : Int) == 0) = false := by rw [beq_eq_false_iff_ne]; omega
  refine calls_of_wp_marks Try.func19 rfl ?_
  simp only [Try.ntmps19, List.size_toArray, List.length_cons, List.length_nil, Nat.reduceAdd, Nat.reduceSub, Array.replicate_succ, Array.replicate_zero, List.push_toArray, List.append_toArray, List.nil_append, List.cons_append]
  go_wp2
  go_step3
  go_wp2_with fail
  refine (C.out _).mono ?_
  rintro e w1 ⟨rfl, B1⟩
  have hlt1 : w.heap.size < w1.heap.size := by have := B1.size; simp at this; omega
  have hce : w1.cell? ⟨w.heap.size, 0, none⟩ = some (.int .i64 n) := (B1.cell (p := ⟨w.heap.size, 0, none⟩) (by simp)).trans (by go_simp)
  have BB := below_then (below_alloc _ _) B1
  clear B1
  go_wp2_with fail
  refine (CB.out _).mono ?_
  rintro e w2 ⟨⟨v2, rfl, V2⟩, B2⟩
  have hlt2 : w1.heap.size < w2.heap.size := by have := B2.size; simp at this; omega
  have hce2 : w2.cell? ⟨w.heap.size, 0, none⟩ = some (.int .i64 n) := (B2.cell (p := ⟨w.heap.size, 0, none⟩) (by simp; omega)).trans (by go_simp)
  have hcw : w2.cell? ⟨w1.heap.size, 0, none⟩ = some (.int .i64 k) ∧ w2.cell? ⟨w1.heap.size, 1, none⟩ = some (.int .i64 f) ∧ w2.cell? ⟨w1.heap.size, 2, none⟩ = some (.int .i64 R) ∧ w2.cell? ⟨w1.heap.size, 3, none⟩ = some (.int .i64 S) :=
    ⟨(B2.cell (p := ⟨w1.heap.size, 0, none⟩) (by simp)).trans (by go_simp), (B2.cell (p := ⟨w1.heap.size, 1, none⟩) (by simp)).trans (by go_simp), (B2.cell (p := ⟨w1.heap.size, 2, none⟩) (by simp)).trans (by go_simp), (B2.cell (p := ⟨w1.heap.size, 3, none⟩) (by simp)).trans (by go_simp)⟩
  obtain ⟨hcw0, hcw1, hcw2, hcw3⟩ := hcw
  have BB2 := below_then BB (below_then (below_alloc _ _) B2)
  have HV2 := hid V2
  obtain ⟨va, vc, rfl, _⟩ := V2
  rw [List.length_map, HL.out] at HV2 ⊢
  go_wp2_with (go_at_call 31; refine (CU.out _ _ HV2.out).mono ?_; rintro e w' ⟨rfl, rfl⟩)
  exact bodyPostM_ret0 rfl (results_tmp2 rfl _ _ _) ⟨rfl, BB2⟩
/-- Positions. -/
theorem rmPos_any (k f limit rv n : Int) (w : World) :
    Calls Try.prog 19 #[.int .i64 k, .int .i64 f, .int .i64 limit, .int .i64 rv, .int .i64 n] w fun e w' => (∃ v', e = .returned (.tuple #[v', .int .i64 (Rm.posR k f limit rv n).2]) ∧ Vw w' v' ((Rm.posR k f limit rv n).1.map (Value.int .i64))) ∧ Below w.heap.size w w' := by
  unfold Rm.posR
  split
  · rename_i h
    obtain ⟨hv, hr0, hr3, hn0, hn⟩ := h
    obtain ⟨h1, h2, h3, h4, h5⟩ := Rm.valid_of hv
    obtain ⟨k, rfl⟩ := Int.eq_ofNat_of_zero_le (show 0 ≤ k by omega)
    obtain ⟨f, rfl⟩ := Int.eq_ofNat_of_zero_le h3
    obtain ⟨rv, rfl⟩ := Int.eq_ofNat_of_zero_le hr0
    obtain ⟨n, rfl⟩ := Int.eq_ofNat_of_zero_le hn0
    simp only [Int.toNat_natCast]
    have hlen : (Rm.buf k f (Rm.rows k) (Rm.size k limit)).length = Rm.size k limit := by
      refine Rm.buf_len ?_
      unfold Rm.size; omega
    by_cases hz : (n : Int) = 0
    · rw [if_pos hz]
      refine (rmPos_zero k f rv n limit (by omega) (by omega) (by omega) h5 (by omega) (by omega) _ _ _ rfl rfl rfl (by omega) trivial w).mono ?_
      rintro e w' ⟨rfl, B⟩
      exact ⟨⟨_, rfl, Vw.nil _ _ _⟩, B⟩
    · rw [if_neg hz]
      by_cases hc : Rm.cnt (Rm.buf k f (Rm.rows k) (Rm.size k limit)) (Rm.size k limit) = 0
      · rw [if_pos hc]
        refine (rmPos_none k f rv n limit (by omega) (by omega) (by omega) h5 (by omega) (by omega) _ _ _ rfl rfl rfl (by omega) (by rw [hlen]; exact hc) w).mono ?_
        rintro e w' ⟨rfl, B⟩
        exact ⟨⟨_, rfl, Vw.nil _ _ _⟩, B⟩
      · rw [if_neg hc]
        refine (rmPos_ok k f rv n limit (by omega) (by omega) (by omega) h5 (by omega) (by omega) (by omega) _ _ _ _ rfl rfl rfl rfl (by rw [hlen]; exact hc) w).mono ?_
        rintro e w' ⟨⟨v', rfl, O⟩, B⟩
        exact ⟨⟨_, rfl, O.vw⟩, B⟩
  · rename_i h
    refine (rmPos_err k f limit rv n h w).mono ?_
    rintro e w' ⟨rfl, B⟩
    exact ⟨⟨_, rfl, Vw.nil _ _ _⟩, B⟩
end Go.Proofs.Ytloldjmibjkkkaa

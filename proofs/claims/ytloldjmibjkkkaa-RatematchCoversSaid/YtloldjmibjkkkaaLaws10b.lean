/- userplanelaw10: RatematchBuffers, RatematchStarts. -/
import Derived.Test.YtloldjmibjkkkaaKnown10
import Derived.Test.YtloldjmibjkkkaaRef10b
namespace Go.Proofs.Ytloldjmibjkkkaa
open Go.RowKit Go.Shelf
set_option linter.unusedVariables false
namespace Rm
theorem buf_size {k f : Nat} {limit : Int} (h1 : 40 ≤ k) (h : 1 ≤ limit) : (buf k f (rows k) (size k limit)).length = size k limit := by
  refine buf_len ?_
  unfold size; omega
theorem size_le {k : Nat} {limit : Int} (h2 : k ≤ 6144) : size k limit ≤ 20000 := by unfold size rows; omega
end Rm
set_option maxRecDepth 100000 in
set_option maxHeartbeats 1000000 in
theorem law_RatematchBuffers (k f limit : Int) (wk : (Lit.int .i64 k).wf = true) (wf : (Lit.int .i64 f).wf = true) (wl : (Lit.int .i64 limit).wf = true) (w : World) :
    Calls Try.prog 3 #[.int .i64 k, .int .i64 f, .int .i64 limit] w fun e w' => e = .returned (.bool true) ∧ Below w.heap.size w w' := by
  clear wk wf wl
  have C1 := hid (rmBuffer_any k f limit)
  have C2 := hid (rmUsable_any k f limit)
  have C3 := hid (refValid_any k f limit)
  unfold Rm.bufR at C1
  unfold Rm.usableR at C2
  cases hv : Rm.valid k f limit with
  | false =>
    rw [hv] at C1 C2 C3
    clear hv
    rw [if_neg (by simp)] at C1 C2
    go_enter Try.func3, Try.ntmps3
    go_wp2_with fail
    refine (C1.out _).mono ?_
    rintro e w1 ⟨⟨v1, rfl, o1⟩, B1⟩
    obtain ⟨a1, c1, rfl⟩ := o1.is_slice
    go_wp2_with fail
    refine (C2.out _).mono ?_
    rintro e w2 ⟨rfl, B2⟩
    clear o1
    go_wp2_with fail
    refine (C3.out _).mono ?_
    rintro e w3 ⟨rfl, rfl⟩
    go_wp2_with fail
    refine (known10_true _).mono ?_
    rintro e w4 ⟨rfl, B4⟩
    go_wp2
    go_ret
    exact ⟨rfl, below_then (below_then B1 B2) B4⟩
  | true =>
    rw [hv] at C1 C2 C3
    obtain ⟨h1, h2, h3, h4, h5⟩ := Rm.valid_of hv
    clear hv
    rw [if_pos rfl] at C1 C2
    obtain ⟨k, rfl⟩ := Int.eq_ofNat_of_zero_le (show 0 ≤ k by omega)
    obtain ⟨f, rfl⟩ := Int.eq_ofNat_of_zero_le h3
    simp only [Int.toNat_natCast] at C1 C2
    have C4 := hid (refBuffer_any k f limit (by omega) (by omega) h5)
    have HL := hid (Rm.buf_size (k := k) (f := f) (limit := limit) (by omega) h5)
    have hS := Rm.size_le (k := k) (limit := limit) (by omega)
    generalize Rm.buf k f (Rm.rows k) (Rm.size k limit) = L at *
    generalize Rm.size k limit = S at *
    have hcl := Rm.cnt_le L S
    have C5 := hid (show ∀ w v, Vw w v (L.map (Value.int .i64)) → Calls Try.prog 16 #[v] w fun e w' => e = .returned (.int .i64 (Rm.cnt L S)) ∧ w = w' from fun w v h => by
      have := refUsable_any w v L h (by rw [HL.out]; omega)
      rwa [HL.out] at this)
    have HS := hid hS
    generalize Rm.cnt L S = m at *
    clear hS h1 h2 h3 h4 h5 hcl
    go_enter Try.func3, Try.ntmps3
    go_wp2_with fail
    refine (C1.out _).mono ?_
    rintro e w1 ⟨⟨v1, rfl, o1⟩, B1⟩
    obtain ⟨a1, c1, rfl⟩ := o1.is_slice
    have V1 := hid o1.vw
    clear o1
    rw [List.length_map, HL.out] at V1 ⊢
    go_wp2_with fail
    refine (C2.out _).mono ?_
    rintro e w2 ⟨rfl, B2⟩
    go_wp2_with fail
    refine (C3.out _).mono ?_
    rintro e w3 ⟨rfl, rfl⟩
    go_wp2_with fail
    refine (C4.out _).mono ?_
    rintro e w4 ⟨⟨v4, rfl, V4⟩, B4⟩
    have V4' := hid V4
    clear V4
    have BB := hid (below_then (below_then B1 B2) B4)
    have V14 := hid ((V1.out.below B2 (Nat.le_refl _)).below B4 (Nat.le_refl _))
    clear B1 B2 B4 V1 C1 C2 C3 C4
    go_wp2_with fail
    refine (same_any _ _ _ L L V14.out V4'.out (by have := HL.out; have := HS.out; omega) (by have := HL.out; have := HS.out; omega)).mono ?_
    rintro e w5 ⟨rfl, m5, rfl⟩
    rw [decide_eq_true rfl]
    go_wp2_with fail
    refine (C5.out (World.drewN w4 m5) _ (V4'.out.drewN m5)).mono ?_
    rintro e w6 ⟨rfl, rfl⟩
    go_wp2_with fail
    refine (known10_true _).mono ?_
    rintro e w7 ⟨rfl, B7⟩
    have BB2 := hid (below_then (below_then BB.out (below_drewN _ m5)) B7)
    clear B7
    go_wp2
    go_ret
    exact ⟨rfl, BB2.out⟩
set_option maxRecDepth 100000 in
set_option maxHeartbeats 1000000 in
theorem law_RatematchStarts (k limit rv : Int) (wk : (Lit.int .i64 k).wf = true) (wf : (Lit.int .i64 limit).wf = true) (wl : (Lit.int .i64 rv).wf = true) (w : World) :
    Calls Try.prog 4 #[.int .i64 k, .int .i64 limit, .int .i64 rv] w fun e w' => e = .returned (.bool true) ∧ Below w.heap.size w w' := by
  clear wk wf wl
  have C1 := hid (rmStart_any k limit rv)
  have C3 := hid (refValid_any k 0 limit)
  unfold Rm.startR at C1
  cases hv : Rm.valid k 0 limit with
  | false =>
    rw [hv] at C1 C3
    clear hv
    rw [if_neg (by simp)] at C1
    go_enter Try.func4, Try.ntmps4
    go_wp2_with fail
    refine (C1.out _).mono ?_
    rintro e w1 ⟨rfl, B1⟩
    go_wp2_with fail
    refine (C3.out _).mono ?_
    rintro e w3 ⟨rfl, rfl⟩
    go_wp2_with fail
    refine (known10_true _).mono ?_
    rintro e w4 ⟨rfl, B4⟩
    go_wp2
    go_ret
    exact ⟨rfl, below_then B1 B4⟩
  | true =>
    rw [hv] at C1 C3
    obtain ⟨h1, h2, h3, h4, h5⟩ := Rm.valid_of hv
    clear hv
    by_cases r1 : rv < 0
    · rw [if_neg (by omega)] at C1
      clear h1 h2 h3 h4 h5
      go_enter Try.func4, Try.ntmps4
      go_wp2_with fail
      refine (C1.out _).mono ?_
      rintro e w1 ⟨rfl, B1⟩
      go_wp2_with fail
      refine (C3.out _).mono ?_
      rintro e w3 ⟨rfl, rfl⟩
      go_wp2_with fail
      refine (known10_true _).mono ?_
      rintro e w4 ⟨rfl, B4⟩
      go_wp2
      go_ret
      exact ⟨rfl, below_then B1 B4⟩
    by_cases r2 : 3 < rv
    · rw [if_neg (by omega)] at C1
      clear h1 h2 h3 h4 h5
      go_enter Try.func4, Try.ntmps4
      go_wp2_with fail
      refine (C1.out _).mono ?_
      rintro e w1 ⟨rfl, B1⟩
      go_wp2_with fail
      refine (C3.out _).mono ?_
      rintro e w3 ⟨rfl, rfl⟩
      go_wp2_with fail
      refine (known10_true _).mono ?_
      rintro e w4 ⟨rfl, B4⟩
      go_wp2
      go_ret
      exact ⟨rfl, below_then B1 B4⟩
    rw [if_pos ⟨rfl, by omega, by omega⟩] at C1
    obtain ⟨k, rfl⟩ := Int.eq_ofNat_of_zero_le (show 0 ≤ k by omega)
    obtain ⟨rv, rfl⟩ := Int.eq_ofNat_of_zero_le (show 0 ≤ rv by omega)
    simp only [Int.toNat_natCast] at C1
    have C4 := hid (show ∀ w, Calls Try.prog 14 #[.int .i64 k, .int .i64 0, .int .i64 limit] w _ from refBuffer_any k 0 limit (by omega) (by omega) h5)
    have HL := hid (Rm.buf_size (k := k) (f := 0) (limit := limit) (by omega) h5)
    have hS := Rm.size_le (k := k) (limit := limit) (by omega)
    have hSb := Rm.size_bd (k := k) h5 (by omega)
    have C5 := hid (fun w => refStart_any k (Rm.size k limit) rv (Rm.rows k) (by omega) (by omega) rfl hSb.1 hSb.2 (by omega) w)
    have hst := Rm.start_lt (R := Rm.rows k) (rv := rv) hSb.1
    generalize Rm.buf k 0 (Rm.rows k) (Rm.size k limit) = L at *
    generalize Rm.start (Rm.rows k) (Rm.size k limit) rv = s at *
    generalize Rm.size k limit = S at *
    clear hS h1 h2 h3 h4 h5 hSb
    go_enter Try.func4, Try.ntmps4
    go_wp2_with fail
    refine (C1.out _).mono ?_
    rintro e w1 ⟨rfl, B1⟩
    go_wp2_with fail
    refine (C3.out _).mono ?_
    rintro e w3 ⟨rfl, rfl⟩
    go_wp2_with fail
    refine (C4.out _).mono ?_
    rintro e w4 ⟨⟨v4, rfl, V4⟩, B4⟩
    obtain ⟨a4, c4, rfl, _⟩ := V4
    rw [List.length_map, HL.out]
    have BB := hid (below_then B1 B4)
    clear B1 B4 C1 C3 C4 HL
    go_wp2_with fail
    refine (C5.out _).mono ?_
    rintro e w6 ⟨rfl, rfl⟩
    go_wp2_with fail
    refine (known10_true _).mono ?_
    rintro e w7 ⟨rfl, B7⟩
    have BB2 := hid (below_then BB.out B7)
    clear B7
    go_wp2
    go_ret
    exact ⟨rfl, BB2.out⟩
end Go.Proofs.Ytloldjmibjkkkaa

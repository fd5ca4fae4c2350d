/- userplanelaw10: RatematchPositions. -/
import Derived.Test.YtloldjmibjkkkaaKnown10
import Derived.Test.YtloldjmibjkkkaaRef10c
namespace Go.Proofs.Ytloldjmibjkkkaa
open Go.RowKit Go.Shelf
set_option linter.unusedVariables false
namespace Rm
theorem posR_len (k f limit rv n : Int) : (posR k f limit rv n).1.length ≤ 131072 := by
  unfold posR
  split
  · rename_i h
    split
    · simp
    · split
      · simp
      · rename_i h2 h3
        obtain ⟨hv, _, _, h0, h1⟩ := h
        obtain ⟨h4, h5, h6, h7, h8⟩ := valid_of hv
        rw [posL_len (cnt_pos ?_)]
        · omega
        · rw [buf_len (by unfold size; omega)]; exact h3
  · simp
end Rm
set_option maxRecDepth 100000 in
set_option maxHeartbeats 1000000 in
theorem law_RatematchPositions (k f limit rv n : Int) (w0 : (Lit.int .i64 k).wf = true) (w1 : (Lit.int .i64 f).wf = true) (w2 : (Lit.int .i64 limit).wf = true) (w3 : (Lit.int .i64 rv).wf = true) (w4 : (Lit.int .i64 n).wf = true) (w : World) :
    Calls Try.prog 5 #[.int .i64 k, .int .i64 f, .int .i64 limit, .int .i64 rv, .int .i64 n] w fun e w' => e = .returned (.bool true) ∧ Below w.heap.size w w' := by
  clear w0 w1 w2 w3 w4
  have hl := hid (Rm.posR_len k f limit rv n)
  have C1 := hid (rmPos_any k f limit rv n)
  have C2 := hid (refPos_any k f limit rv n)
  generalize Rm.posR k f limit rv n = r at *
  obtain ⟨A, no⟩ := r
  dsimp only at C1 C2 hl
  have main : (n ≤ 20000 ∨ 131072 < n) → Calls Try.prog 5 #[.int .i64 k, .int .i64 f, .int .i64 limit, .int .i64 rv, .int .i64 n] w fun e w' => e = .returned (.bool true) ∧ Below w.heap.size w w' := by
    intro h
    have hd : (decide (20000 < n) && decide (n ≤ 131072)) = false := by simp; omega
    by_cases hn : n ≤ 20000
    · clear h hd
      go_enter Try.func5, Try.ntmps5
      go_wp2_with fail
      refine (C1.out _).mono ?_
      rintro e w1 ⟨⟨v1, rfl, V1⟩, B1⟩
      have V1' := hid V1
      clear V1
      go_wp2_with fail
      refine (C2.out _).mono ?_
      rintro e w2 ⟨⟨v2, rfl, V2⟩, B2⟩
      have V2' := hid V2
      clear V2
      go_wp2_with fail
      refine (same_any _ _ _ A A (V1'.out.below B2 (Nat.le_refl _)) V2'.out (by have := hl.out; omega) (by have := hl.out; omega)).mono ?_
      rintro e w5 ⟨rfl, m5, rfl⟩
      rw [decide_eq_true rfl]
      have BB := hid (below_then (below_then B1 B2) (below_drewN _ m5))
      clear B1 B2 V1' V2' C1 C2
      go_wp2_with fail
      refine (known10_true _).mono ?_
      rintro e w7 ⟨rfl, B7⟩
      have BB2 := hid (below_then BB.out B7)
      clear B7
      go_wp2
      go_ret
      exact ⟨rfl, BB2.out⟩
    · have hn2 : 131072 < n := by omega
      clear h hd
      go_enter Try.func5, Try.ntmps5
      go_wp2_with fail
      refine (C1.out _).mono ?_
      rintro e w1 ⟨⟨v1, rfl, V1⟩, B1⟩
      have V1' := hid V1
      clear V1
      go_wp2_with fail
      refine (C2.out _).mono ?_
      rintro e w2 ⟨⟨v2, rfl, V2⟩, B2⟩
      have V2' := hid V2
      clear V2
      go_wp2_with fail
      refine (same_any _ _ _ A A (V1'.out.below B2 (Nat.le_refl _)) V2'.out (by have := hl.out; omega) (by have := hl.out; omega)).mono ?_
      rintro e w5 ⟨rfl, m5, rfl⟩
      rw [decide_eq_true rfl]
      have BB := hid (below_then (below_then B1 B2) (below_drewN _ m5))
      clear B1 B2 V1' V2' C1 C2
      go_wp2_with fail
      refine (known10_true _).mono ?_
      rintro e w7 ⟨rfl, B7⟩
      have BB2 := hid (below_then BB.out B7)
      clear B7
      go_wp2
      go_ret
      exact ⟨rfl, BB2.out⟩
  by_cases h1 : n ≤ 20000
  · exact main (.inl h1)
  by_cases h2 : 131072 < n
  · exact main (.inr h2)
  clear main C1 C2 hl
  go_enter Try.func5, Try.ntmps5
  go_wp2_with fail
  refine (known10_true _).mono ?_
  rintro e w7 ⟨rfl, B7⟩
  go_wp2
  go_ret
  exact ⟨rfl, B7⟩
end Go.Proofs.Ytloldjmibjkkkaa

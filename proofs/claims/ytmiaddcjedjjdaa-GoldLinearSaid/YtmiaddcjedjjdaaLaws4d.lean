/- userplanelaw04.GoldLinear. -/
import Derived.Test.YtmiaddcjedjjdaaLaws4a
import Derived.Test.YtmiaddcjedjjdaaAdd
namespace Go.Proofs.Ytmiaddcjedjjdaa
open Go.RowKit Go.Shelf
set_option linter.unusedVariables false
theorem seq_bits (i n : Nat) : ∀ x ∈ Scr.seqL i n, 0 ≤ x ∧ x < 256 := by
  intro x hx
  obtain ⟨k, _, rfl⟩ := List.mem_map.1 hx
  cases Reg.c i k <;> simp
theorem seq_add (a b n k : Nat) (hk : k < n) : addEl (Scr.seqL a n) (Scr.seqL b n) k = ((Reg.c a k ^^ Reg.c b k).toNat : Int) := by
  unfold addEl Scr.seqL
  simp only [List.getD, List.getElem?_map, List.getElem?_range hk, Option.map_some, Option.getD_some]
  cases Reg.c a k <;> cases Reg.c b k <;> rfl
theorem seq_linear {a b : Nat} (ha : a < 2147483648) (hb : b < 2147483648) (n : Nat) : addL (Scr.seqL a n) (Scr.seqL b n) n = addL (Scr.seqL (a ^^^ b) n) (Scr.seqL 0 n) n := by
  unfold addL
  apply List.map_congr_left
  intro k hk
  have hk' := List.mem_range.1 hk
  rw [seq_add _ _ _ _ hk', seq_add _ _ _ _ hk', Reg.c_linear ha hb]

set_option maxHeartbeats 1000000 in
theorem law_GoldLinear (a b n : Int) (w0 : (Lit.int .u32 a).wf = true) (w1 : (Lit.int .u32 b).wf = true) (w2 : (Lit.int .i64 n).wf = true) (w : World) :
    Calls Try.prog 8 #[.int .u32 a, .int .u32 b, .int .i64 n] w fun e w' => e = .returned (.bool true) ∧ Below w.heap.size w w' := by
  obtain ⟨a, rfl, ha⟩ := wf_u32 w0
  obtain ⟨b, rfl, hb⟩ := wf_u32 w1
  clear w0 w1 w2
  by_cases h1 : n < 0
  · go_enter Try.func8, Try.ntmps8
    go_wp2_with (go_at_call 14; refine (known4 _).mono ?_; rintro e w4 ⟨rfl, hB4⟩)
    go_ret
    exact ⟨rfl, hB4⟩
  by_cases h2 : 1000 < n
  · go_enter Try.func8, Try.ntmps8
    go_wp2_with (go_at_call 14; refine (known4 _).mono ?_; rintro e w4 ⟨rfl, hB4⟩)
    go_ret
    exact ⟨rfl, hB4⟩
  by_cases h3 : 2147483648 ≤ a
  · have hd : decide (2147483648 ≤ (a : Int)) = true := by simp; omega
    go_enter Try.func8, Try.ntmps8
    go_wp2_with (go_at_call 14; refine (known4 _).mono ?_; rintro e w4 ⟨rfl, hB4⟩)
    go_ret
    exact ⟨rfl, hB4⟩
  have hd : decide (2147483648 ≤ (a : Int)) = false := by simp; omega
  by_cases h4 : 2147483648 ≤ b
  · have hd2 : decide (2147483648 ≤ (b : Int)) = true := by simp; omega
    go_enter Try.func8, Try.ntmps8
    go_wp2_with (go_at_call 14; refine (known4 _).mono ?_; rintro e w4 ⟨rfl, hB4⟩)
    go_ret
    exact ⟨rfl, hB4⟩
  have hd2 : decide (2147483648 ≤ (b : Int)) = false := by simp; omega
  obtain ⟨n, rfl⟩ := Int.eq_ofNat_of_zero_le (show 0 ≤ n by omega)
  have hn : n ≤ 1000 := by omega
  have hxor : bits .xor .u32 (a : Int) (b : Int) = ((a ^^^ b : Nat) : Int) := u32_xor_nat a b ha hb
  have hab : a ^^^ b < 2147483648 := Nat.xor_lt_two_pow (n := 31) (by omega) (by omega)
  have C0 := hid (fun w => sequence_any w a ha n)
  have C1 := hid (fun w => sequence_any w b hb n)
  have C2 := hid (fun w => sequence_any w (a ^^^ b) (by omega) n)
  have C3 := hid (show ∀ w, Calls Try.prog 15 #[.int .u32 0, .int .i64 n] w _ from fun w => sequence_any w 0 (by omega) n)
  rw [Scr.seqR_ok (by omega) (by omega)] at C0 C1 C2 C3
  have HE := hid (seq_linear (a := a) (b := b) (by omega) (by omega) n)
  have b0 := hid (seq_bits a n)
  have b1 := hid (seq_bits b n)
  have b2 := hid (seq_bits (a ^^^ b) n)
  have b3 := hid (seq_bits 0 n)
  have l0 := hid (Scr.seqL_len a n)
  have l1 := hid (Scr.seqL_len b n)
  have l2 := hid (Scr.seqL_len (a ^^^ b) n)
  have l3 := hid (Scr.seqL_len 0 n)
  generalize Scr.seqL a n = A at C0 HE b0 l0
  generalize Scr.seqL b n = B at C1 HE b1 l1
  generalize Scr.seqL (a ^^^ b) n = D at C2 HE b2 l2
  generalize Scr.seqL 0 n = Z at C3 HE b3 l3
  generalize a ^^^ b = ab at hxor C2
  have hne : ((n : Int) != n) = false := by simp
  clear h1 h2 h3 h4 hab
  go_enter Try.func8, Try.ntmps8
  go_wp2_with fail
  refine (C0.out _).mono ?_
  rintro e w1 ⟨⟨v1, rfl, hown1⟩, hB1⟩
  obtain ⟨a1, cc1, rfl⟩ := hown1.is_slice
  have H1 := hid hown1
  clear hown1
  rw [List.length_map, l0.out] at H1 ⊢
  go_wp2_with fail
  refine (C1.out _).mono ?_
  rintro e w2 ⟨⟨v2, rfl, hown2⟩, hB2⟩
  obtain ⟨a2, cc2, rfl⟩ := hown2.is_slice
  have H2 := hid hown2
  clear hown2
  rw [List.length_map, l1.out] at H2 ⊢
  go_wp2_with fail
  refine (C2.out _).mono ?_
  rintro e w3 ⟨⟨v3, rfl, hown3⟩, hB3⟩
  obtain ⟨a3, cc3, rfl⟩ := hown3.is_slice
  have H3 := hid hown3
  clear hown3
  rw [List.length_map, l2.out] at H3 ⊢
  go_wp2_with fail
  refine (C3.out _).mono ?_
  rintro e w4 ⟨⟨v4, rfl, hown4⟩, hB4⟩
  obtain ⟨a4, cc4, rfl⟩ := hown4.is_slice
  have H4 := hid hown4
  clear hown4
  rw [List.length_map, l3.out] at H4 ⊢
  go_wp2_with fail
  refine (add_any _ _ _ A B (((H1.out.vw.below hB2 (Nat.le_refl _)).below hB3 (Nat.le_refl _)).below hB4 (Nat.le_refl _)) ((H2.out.vw.below hB3 (Nat.le_refl _)).below hB4 (Nat.le_refl _)) (by rw [l0.out, l1.out]) (by rw [l0.out]; omega) b0.out b1.out).mono ?_
  rintro e w5 ⟨⟨v5, rfl, hown5⟩, hB5⟩
  go_wp2_with fail
  refine (add_any _ _ _ D Z ((H3.out.vw.below hB4 (Nat.le_refl _)).below hB5 (Nat.le_refl _)) (H4.out.vw.below hB5 (Nat.le_refl _)) (by rw [l2.out, l3.out]) (by rw [l2.out]; omega) b2.out b3.out).mono ?_
  rintro e w6 ⟨⟨v6, rfl, hown6⟩, hB6⟩
  rw [l2.out, ← HE.out] at hown6
  rw [l0.out] at hown5
  go_wp2_with fail
  refine (sameB_any _ _ _ _ _ (hown5.vw.below hB6 (Nat.le_refl _)) hown6.vw (by rw [addL_len]; omega) (by rw [addL_len]; omega)).mono ?_
  rintro e w7 ⟨rfl, m, rfl⟩
  rw [decide_eq_true rfl]
  go_wp2_with (go_at_call 14; refine (known4 _).mono ?_; rintro e w8 ⟨rfl, hB8⟩)
  go_ret
  exact ⟨rfl, below_then (below_then (below_then (below_then (below_then (below_then (below_then hB1 hB2) hB3) hB4) hB5) hB6) (below_drewN _ m)) hB8⟩
end Go.Proofs.Ytmiaddcjedjjdaa

/- userplanelaw04: GoldSequences, GoldScrambles, GoldSofts. -/
import Derived.Test.YtmiaddcjedjjdaaLaws4a
import Derived.Test.YtmiaddcjedjjdaaRefScr
namespace Go.Proofs.Ytmiaddcjedjjdaa
open Go.RowKit Go.Shelf
set_option linter.unusedVariables false
theorem sameB_true (w : World) (va vb : Value) (A : List Int) (ha : Vw w va (A.map (Value.int .u8))) (hb : Vw w vb (A.map (Value.int .u8))) (hl : A.length ≤ 9223372036854775807) :
    Calls Try.prog 16 #[va, vb] w fun r w' => r = .returned (.bool true) ∧ Below w.heap.size w w' := by
  have H := sameB_any w va vb A A ha hb hl hl
  rw [decide_eq_true rfl] at H
  exact H.mono fun e w' ⟨h1, m, h2⟩ => ⟨h1, by subst h2; exact below_drewN _ m⟩
theorem same_true (w : World) (va vb : Value) (A : List Int) (ha : Vw w va (A.map (Value.int .i64))) (hb : Vw w vb (A.map (Value.int .i64))) (hl : A.length ≤ 9223372036854775807) :
    Calls Try.prog 24 #[va, vb] w fun r w' => r = .returned (.bool true) ∧ Below w.heap.size w w' := by
  have H := same_any w va vb A A ha hb hl hl
  rw [decide_eq_true rfl] at H
  exact H.mono fun e w' ⟨h1, m, h2⟩ => ⟨h1, by subst h2; exact below_drewN _ m⟩
set_option maxHeartbeats 1000000 in
theorem law_GoldScrambles (w : World) (i : Int) (v : Value) (B : List Int) (w0 : (Lit.int .u32 i).wf = true) (hb : IntsIn .u8 w v B) :
    Calls Try.prog 6 #[.int .u32 i, v] w fun e w' => e = .returned (.bool true) ∧ Below w.heap.size w w' := by
  obtain ⟨i, rfl, hi⟩ := wf_u32 w0
  clear w0
  obtain ⟨hv, hl, hwf⟩ := hb
  have HV := hid hv
  have C1 := hid (fun w h => scramble_any w v i hi B h hl hwf)
  have C2 := hid (fun w h => refbscr_any w v i hi B h hl hwf)
  have hR := Scr.bR_len i B
  clear hwf
  generalize Scr.bR i B = R at *
  obtain ⟨R1, R2⟩ := R
  dsimp only at C1 C2 hR
  have hx : (R2 == R2) = true := by simp
  obtain ⟨a, c, rfl, _⟩ := hv
  rw [List.length_map] at HV C1 C2 ⊢
  by_cases h : 3000 < B.length
  · have hd : decide (3000 < (B.length : Int)) = true := by simp; omega
    go_enter Try.func6, Try.ntmps6
    go_wp2_with (go_at_call 14; refine (known4 _).mono ?_; rintro e w4 ⟨rfl, hB4⟩)
    go_ret
    exact ⟨rfl, hB4⟩
  have hd : decide (3000 < (B.length : Int)) = false := by simp; omega
  clear h
  go_enter Try.func6, Try.ntmps6
  go_wp2_with fail
  refine (C1.out _ HV.out).mono ?_
  rintro e w1 ⟨⟨v1, rfl, O1⟩, B1⟩
  have V1 := hid O1.vw
  clear O1
  go_wp2_with fail
  refine (C2.out _ (HV.out.below B1 (Nat.le_refl _))).mono ?_
  rintro e w2 ⟨⟨v2, rfl, V2⟩, B2⟩
  go_wp2_with fail
  refine (sameB_true _ _ _ R1 (V1.out.below B2 (Nat.le_refl _)) V2 (by omega)).mono ?_
  rintro e w3 ⟨rfl, B3⟩
  go_wp2_with (go_at_call 14; refine (known4 _).mono ?_; rintro e w4 ⟨rfl, hB4⟩)
  go_ret
  exact ⟨rfl, below_then (below_then (below_then B1 B2) B3) hB4⟩
set_option maxHeartbeats 1000000 in
theorem law_GoldSofts (w : World) (i : Int) (v : Value) (B : List Int) (w0 : (Lit.int .u32 i).wf = true) (hb : IntsIn .i64 w v B) :
    Calls Try.prog 9 #[.int .u32 i, v] w fun e w' => e = .returned (.bool true) ∧ Below w.heap.size w w' := by
  obtain ⟨i, rfl, hi⟩ := wf_u32 w0
  clear w0
  obtain ⟨hv, hl, hwf⟩ := hb
  have HV := hid hv
  have C1 := hid (fun w h => scrambleSoft_any w v i hi B h hl hwf)
  have C2 := hid (fun w h => refiscr_any w v i hi B h hl hwf)
  have hR := Scr.iR_len i B
  clear hwf
  generalize Scr.iR i B = R at *
  obtain ⟨R1, R2⟩ := R
  dsimp only at C1 C2 hR
  have hx : (R2 == R2) = true := by simp
  obtain ⟨a, c, rfl, _⟩ := hv
  rw [List.length_map] at HV C1 C2 ⊢
  by_cases h : 3000 < B.length
  · have hd : decide (3000 < (B.length : Int)) = true := by simp; omega
    go_enter Try.func9, Try.ntmps9
    go_wp2_with (go_at_call 14; refine (known4 _).mono ?_; rintro e w4 ⟨rfl, hB4⟩)
    go_ret
    exact ⟨rfl, hB4⟩
  have hd : decide (3000 < (B.length : Int)) = false := by simp; omega
  clear h
  go_enter Try.func9, Try.ntmps9
  go_wp2_with fail
  refine (C1.out _ HV.out).mono ?_
  rintro e w1 ⟨⟨v1, rfl, O1⟩, B1⟩
  have V1 := hid O1.vw
  clear O1
  go_wp2_with fail
  refine (C2.out _ (HV.out.below B1 (Nat.le_refl _))).mono ?_
  rintro e w2 ⟨⟨v2, rfl, V2⟩, B2⟩
  go_wp2_with fail
  refine (same_true _ _ _ R1 (V1.out.below B2 (Nat.le_refl _)) V2 (by omega)).mono ?_
  rintro e w3 ⟨rfl, B3⟩
  go_wp2_with (go_at_call 14; refine (known4 _).mono ?_; rintro e w4 ⟨rfl, hB4⟩)
  go_ret
  exact ⟨rfl, below_then (below_then (below_then B1 B2) B3) hB4⟩
set_option maxHeartbeats 1000000 in
theorem law_GoldSequences (i n : Int) (w0 : (Lit.int .u32 i).wf = true) (w1 : (Lit.int .i64 n).wf = true) (w : World) :
    Calls Try.prog 4 #[.int .u32 i, .int .i64 n] w fun e w' => e = .returned (.bool true) ∧ Below w.heap.size w w' := by
  obtain ⟨i, rfl, hi⟩ := wf_u32 w0
  clear w0 w1
  have C0 := hid (fun w => sequence_any w i hi n)
  by_cases h1 : n < 0
  · rw [Scr.seqR, if_pos (.inl h1)] at C0
    go_enter Try.func4, Try.ntmps4
    go_wp2_with fail
    refine (C0.out _).mono ?_
    rintro e w1 ⟨⟨v1, rfl, hown1⟩, B1⟩
    obtain ⟨a1, c1, rfl⟩ := hown1.is_slice
    clear hown1
    rw [List.map_nil, List.length_nil]
    go_wp2_with (go_at_call 14; refine (known4 _).mono ?_; rintro e w4 ⟨rfl, hB4⟩)
    go_ret
    exact ⟨rfl, below_then B1 hB4⟩
  by_cases h2 : 131072 < n
  · rw [Scr.seqR, if_pos (.inr (.inl h2))] at C0
    have hd : decide (n ≤ 131072) = false := by simp; omega
    go_enter Try.func4, Try.ntmps4
    go_wp2_with fail
    refine (C0.out _).mono ?_
    rintro e w1 ⟨⟨v1, rfl, hown1⟩, B1⟩
    obtain ⟨a1, c1, rfl⟩ := hown1.is_slice
    clear hown1
    rw [List.map_nil, List.length_nil]
    go_wp2_with (go_at_call 14; refine (known4 _).mono ?_; rintro e w4 ⟨rfl, hB4⟩)
    go_ret
    exact ⟨rfl, below_then B1 hB4⟩
  have hd : decide (n ≤ 131072) = true := by simp; omega
  by_cases h3 : 3000 < n
  · go_enter Try.func4, Try.ntmps4
    go_wp2_with (go_at_call 14; refine (known4 _).mono ?_; rintro e w4 ⟨rfl, hB4⟩)
    go_ret
    exact ⟨rfl, hB4⟩
  by_cases h4 : 2147483648 ≤ i
  · rw [Scr.seqR, if_pos (.inr (.inr h4))] at C0
    have hd2 : decide (2147483648 ≤ (i : Int)) = true := by simp; omega
    clear h4
    go_enter Try.func4, Try.ntmps4
    go_wp2_with fail
    refine (C0.out _).mono ?_
    rintro e w1 ⟨⟨v1, rfl, hown1⟩, B1⟩
    obtain ⟨a1, c1, rfl⟩ := hown1.is_slice
    clear hown1
    rw [List.map_nil, List.length_nil]
    go_wp2_with (go_at_call 14; refine (known4 _).mono ?_; rintro e w4 ⟨rfl, hB4⟩)
    go_ret
    exact ⟨rfl, below_then B1 hB4⟩
  have hd2 : decide (2147483648 ≤ (i : Int)) = false := by simp; omega
  obtain ⟨n, rfl⟩ := Int.eq_ofNat_of_zero_le (show 0 ≤ n by omega)
  rw [Scr.seqR_ok (by omega) (by omega)] at C0
  have CR := hid (fun w => refSeq_any w i (by omega) n (by omega))
  have hl := Scr.seqL_len i n
  have HL := hid hl
  clear hl
  generalize Scr.seqL i n = A at C0 CR HL
  have hn : n ≤ 3000 := by omega
  have HN := hid hn
  clear h1 h2 h3 h4 hn
  have hnn : ¬ (n : Int) < 0 := by omega
  have h3 : ¬ 3000 < (n : Int) := by have := HN.out; omega
  go_enter Try.func4, Try.ntmps4
  go_wp2_with fail
  refine (C0.out _).mono ?_
  rintro e w1 ⟨⟨v1, rfl, hown1⟩, B1⟩
  have V1 := hid hown1.vw
  clear hown1
  go_wp2_with fail
  refine (CR.out _).mono ?_
  rintro e w2 ⟨⟨v2, rfl, hown2⟩, B2⟩
  have V2 := hid hown2.vw
  clear hown2
  go_wp2_with fail
  refine (sameB_true _ _ _ A (V1.out.below B2 (Nat.le_refl _)) V2.out (by rw [HL.out]; have := HN.out; omega)).mono ?_
  rintro e w3 ⟨rfl, B3⟩
  go_wp2_with (go_at_call 14; refine (known4 _).mono ?_; rintro e w4 ⟨rfl, hB4⟩)
  go_ret
  exact ⟨rfl, below_then (below_then (below_then B1 B2) B3) hB4⟩
end Go.Proofs.Ytmiaddcjedjjdaa

/- userplanelaw04: known, and the laws that do not ask the reference's sequences. -/
import Derived.Test.YtmiaddcjedjjdaaGold9
import Derived.Test.YtmiaddcjedjjdaaInit
import Derived.Test.YtmiaddcjedjjdaaSameB
import Derived.Test.YtmiaddcjedjjdaaSame
namespace Go.Proofs.Ytmiaddcjedjjdaa
open Go.RowKit Go.Shelf
set_option linter.unusedVariables false

theorem wf_u32 {x : Int} (h : (Lit.int .u32 x).wf = true) : ∃ n : Nat, x = n ∧ n < 4294967296 := by
  simp [Lit.wf, IntKind.min, IntKind.max, IntKind.signed, IntKind.bits] at h
  exact ⟨x.toNat, by omega, by omega⟩

set_option maxHeartbeats 1000000 in
theorem known4 (w : World) : Calls Try.prog 14 #[] w fun e w' => e = .returned (.bool true) ∧ Below w.heap.size w w' := by
  have c1 := hid (show ∀ w, Calls Try.prog 12 #[.int .i64 1, .int .i64 13, .int .i64 5] w fun e w' => e = .returned (.tuple #[.int .u32 17925, .int .i64 0]) ∧ w = w' from fun w => init_any 1 13 5 w)
  have s1 := hid (fun w => sequence_any w 0 (by omega) 0)
  have s2 := hid (fun w => sequence_any w 0 (by omega) (-1))
  have s3 := hid (fun w => sequence_any w 1 (by omega) 31)
  have s4 := hid (fun w => sequence_any w 0 (by omega) 31)
  have e1 : Scr.seqR 0 0 = ([], 0) := Scr.seqR_ok (by omega) (n := 0) (by omega)
  have e2 : Scr.seqR 0 (-1) = ([], 2) := Scr.seqR_err (by omega)
  have e3 : Scr.seqR 1 31 = (Scr.seqL 1 31, 0) := Scr.seqR_ok (by omega) (n := 31) (by omega)
  have e4 : Scr.seqR 0 31 = (Scr.seqL 0 31, 0) := Scr.seqR_ok (by omega) (n := 31) (by omega)
  rw [e1] at s1; rw [e2] at s2; rw [e3] at s3; rw [e4] at s4
  clear e1 e2 e3 e4
  have HK := hid Scr.seq_known
  have hl1 := hid (Scr.seqL_len 1 31)
  have hl2 := hid (Scr.seqL_len 0 31)
  generalize Scr.seqL 1 31 = A at s3 HK hl1
  generalize Scr.seqL 0 31 = B at s4 HK hl2
  go_enter Try.func14, Try.ntmps14
  go_wp2_with (go_at_call 12; refine (c1.out _).mono ?_; rintro e w1 ⟨rfl, rfl⟩)
  refine (s1.out _).mono ?_
  rintro e w1 ⟨⟨v1, rfl, hown1⟩, hB1⟩
  obtain ⟨a1, cc1, rfl⟩ := hown1.is_slice
  simp only [List.map_nil, List.length_nil]
  go_wp2_with fail
  refine (s2.out _).mono ?_
  rintro e w2 ⟨⟨v2, rfl, hown2⟩, hB2⟩
  obtain ⟨a2, cc2, rfl⟩ := hown2.is_slice
  simp only [List.map_nil, List.length_nil]
  go_wp2_with fail
  refine (s3.out _).mono ?_
  rintro e w3 ⟨⟨v3, rfl, hown3⟩, hB3⟩
  obtain ⟨a3, cc3, rfl⟩ := hown3.is_slice
  have H3 := hid hown3
  clear hown3
  rw [List.length_map, hl1.out] at H3 ⊢
  go_wp2_with fail
  refine (s4.out _).mono ?_
  rintro e w4 ⟨⟨v4, rfl, hown4⟩, hB4⟩
  obtain ⟨a4, cc4, rfl⟩ := hown4.is_slice
  have H4 := hid hown4
  clear hown4 hown1 hown2
  rw [List.length_map, hl2.out] at H4 ⊢
  go_wp2_with (go_at_call 16; refine (sameB_any _ _ _ _ _ (H3.out.vw.below hB4 (Nat.le_refl _)) H4.out.vw (by rw [hl1.out]; omega) (by rw [hl2.out]; omega)).mono ?_; rintro e w5 ⟨rfl, n, rfl⟩; rw [HK.out])
  go_ret
  exact ⟨rfl, below_then (below_then (below_then (below_then hB1 hB2) hB3) hB4) (below_drewN _ n)⟩

set_option maxHeartbeats 1000000 in
theorem law_GoldInits (r o s c : Int) (w0 : (Lit.int .i64 r).wf = true) (w1 : (Lit.int .i64 o).wf = true) (w2 : (Lit.int .i64 s).wf = true) (w3 : (Lit.int .i64 c).wf = true) (w : World) :
    Calls Try.prog 3 #[.int .i64 r, .int .i64 o, .int .i64 s, .int .i64 c] w fun e w' => e = .returned (.bool true) ∧ Below w.heap.size w w' := by
  clear w0 w1 w2 w3
  have C0 := hid (fun w => init_any r s c w)
  have C1 := hid (fun w => refInit_any r s c w)
  have C2 := hid (fun w => init_any o s c w)
  have HP : (initR r s c).2 ≠ 0 ∨ (initR o s c).2 ≠ 0 ∨ ((initR r s c).1 == (initR o s c).1) = (r == o) := by
    unfold initR
    by_cases h1 : r < 0 ∨ 65535 < r ∨ s < 0 ∨ 1073741824 ≤ s ∨ c < 0 ∨ 503 < c
    · rw [if_pos h1]; exact .inl (by simp)
    · by_cases h2 : o < 0 ∨ 65535 < o ∨ s < 0 ∨ 1073741824 ≤ s ∨ c < 0 ∨ 503 < c
      · rw [if_pos h2]; exact .inr (.inl (by simp))
      · rw [if_neg h1, if_neg h2]
        refine .inr (.inr ?_)
        rw [Bool.eq_iff_iff, beq_iff_eq, beq_iff_eq]
        constructor
        · intro h; dsimp only at h; omega
        · intro h; subst h; rfl
  obtain ⟨a, x, hA⟩ : ∃ a x, initR r s c = (a, x) := ⟨_, _, rfl⟩
  obtain ⟨b, y, hB⟩ : ∃ a x, initR o s c = (a, x) := ⟨_, _, rfl⟩
  rw [hA] at C0 C1 HP
  rw [hB] at C2 HP
  clear hA hB
  dsimp only at C0 C1 C2 HP
  have ha : (a == a) = true := by simp
  have hx : (x == x) = true := by simp
  by_cases h1 : x = 0
  · subst h1
    by_cases h2 : y = 0
    · subst h2
      have HQ := hid (HP.resolve_left (fun h => h rfl) |>.resolve_left (fun h => h rfl))
      clear HP
      generalize hab : (a == b) = p at HQ
      generalize hro : (r == o) = q at HQ
      obtain rfl : p = q := HQ.out
      go_enter Try.func3, Try.ntmps3
      go_wp2_with fail
      refine (C0.out _).mono ?_
      rintro e w1 ⟨rfl, rfl⟩
      go_wp2_with fail
      refine (C1.out _).mono ?_
      rintro e w1 ⟨rfl, rfl⟩
      go_wp2_with fail
      refine (C2.out _).mono ?_
      rintro e w1 ⟨rfl, rfl⟩
      have hpp : (p == p) = true := by simp
      go_wp2_with (go_at_call 14; refine (known4 _).mono ?_; rintro e w4 ⟨rfl, hB4⟩)
      go_ret
      exact ⟨rfl, hB4⟩
    · have h3 : (y != 0) = true := by simp [h2]
      clear HP h2
      go_enter Try.func3, Try.ntmps3
      go_wp2_with fail
      refine (C0.out _).mono ?_
      rintro e w1 ⟨rfl, rfl⟩
      go_wp2_with fail
      refine (C1.out _).mono ?_
      rintro e w1 ⟨rfl, rfl⟩
      go_wp2_with fail
      refine (C2.out _).mono ?_
      rintro e w1 ⟨rfl, rfl⟩
      go_wp2_with (go_at_call 14; refine (known4 _).mono ?_; rintro e w4 ⟨rfl, hB4⟩)
      go_ret
      exact ⟨rfl, hB4⟩
  · have h3 : (x != 0) = true := by simp [h1]
    clear HP h1
    go_enter Try.func3, Try.ntmps3
    go_wp2_with fail
    refine (C0.out _).mono ?_
    rintro e w1 ⟨rfl, rfl⟩
    go_wp2_with fail
    refine (C1.out _).mono ?_
    rintro e w1 ⟨rfl, rfl⟩
    go_wp2_with fail
    refine (C2.out _).mono ?_
    rintro e w1 ⟨rfl, rfl⟩
    go_wp2_with (go_at_call 14; refine (known4 _).mono ?_; rintro e w4 ⟨rfl, hB4⟩)
    go_ret
    exact ⟨rfl, hB4⟩
end Go.Proofs.Ytmiaddcjedjjdaa

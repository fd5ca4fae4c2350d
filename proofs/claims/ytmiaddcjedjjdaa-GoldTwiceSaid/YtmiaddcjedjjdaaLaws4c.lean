/- userplanelaw04.GoldTwice. -/
import Derived.Test.YtmiaddcjedjjdaaLaws4a
namespace Go.Proofs.Ytmiaddcjedjjdaa
open Go.RowKit Go.Shelf
set_option linter.unusedVariables false

set_option maxHeartbeats 2000000 in
theorem law_GoldTwice (w : World) (i : Int) (v : Value) (B : List Int) (u : Value) (S : List Int) (w0 : (Lit.int .u32 i).wf = true) (hb : IntsIn .u8 w v B) (hs : IntsIn .i64 w u S) :
    Calls Try.prog 10 #[.int .u32 i, v, u] w fun e w' => e = .returned (.bool true) ∧ Below w.heap.size w w' := by
  obtain ⟨i, rfl, hi⟩ := wf_u32 w0
  clear w0
  obtain ⟨hv, hl, hwf⟩ := hb
  obtain ⟨hu, hl2, hwf2⟩ := hs
  have HV := hid hv
  have HU := hid hu
  obtain ⟨a, c, rfl, _⟩ := hv
  obtain ⟨a', c', rfl, _⟩ := hu
  rw [List.length_map] at HV HU ⊢
  rw [List.length_map]
  by_cases hbig : 3000 < B.length
  · have hgt : decide (3000 < (B.length : Int)) = true := by simp; omega
    clear hwf hwf2
    go_enter Try.func10, Try.ntmps10
    go_wp2_with (go_at_call 14; refine (known4 _).mono ?_; rintro e w4 ⟨rfl, hB4⟩)
    go_ret
    exact ⟨rfl, hB4⟩
  have hgt : decide (3000 < (B.length : Int)) = false := by simp; omega
  by_cases hbig2 : 3000 < S.length
  · have hgt2 : decide (3000 < (S.length : Int)) = true := by simp; omega
    clear hwf hwf2
    go_enter Try.func10, Try.ntmps10
    go_wp2_with (go_at_call 14; refine (known4 _).mono ?_; rintro e w4 ⟨rfl, hB4⟩)
    go_ret
    exact ⟨rfl, hB4⟩
  have hgt2 : decide (3000 < (S.length : Int)) = false := by simp; omega
  clear hbig hbig2
  have C0 := hid (fun w h => scramble_any w (.slice a B.length c) i hi B h hl hwf)
  have C1 := hid (fun w v h => scramble_any w v i hi (Scr.bR i B).1 h (by have := Scr.bR_len i B; omega) (Scr.bR_wf i hwf))
  have C2 := hid (fun w h => scrambleSoft_any w (.slice a' S.length c') i hi S h hl2 hwf2)
  have C3 := hid (fun w v h => scrambleSoft_any w v i hi (Scr.iR i S).1 h (by have := Scr.iR_len i S; omega) (Scr.iR_wf i hwf2))
  have T1 := hid (Scr.bR_twice (i := i) hwf)
  have T2 := hid (Scr.iR_twice (i := i) hwf2)
  clear hwf hwf2
  generalize Scr.bR i B = AX at C0 C1 T1
  generalize Scr.iR i S = DY at C2 C3 T2
  obtain ⟨A, x⟩ := AX
  obtain ⟨D, y⟩ := DY
  dsimp only at C0 C1 C2 C3 T1 T2
  by_cases hx : x = 0
  · subst hx
    have e1 := T1.out rfl
    rw [e1] at C1
    clear e1 T1
    by_cases hy : y = 0
    · subst hy
      have e2 := T2.out rfl
      rw [e2] at C3
      clear e2 T2
      go_enter Try.func10, Try.ntmps10
      go_wp2_with fail
      refine (C0.out _ HV.out).mono ?_
      rintro e w1 ⟨⟨v1, rfl, hown1⟩, hB1⟩
      go_wp2_with fail
      refine (C1.out _ _ hown1.vw).mono ?_
      rintro e w2 ⟨⟨v2, rfl, hown2⟩, hB2⟩
      go_wp2_with fail
      refine (C2.out _ ((HU.out.below hB1 (Nat.le_refl _)).below hB2 (Nat.le_refl _))).mono ?_
      rintro e w3 ⟨⟨v3, rfl, hown3⟩, hB3⟩
      go_wp2_with fail
      refine (C3.out _ _ hown3.vw).mono ?_
      rintro e w4 ⟨⟨v4, rfl, hown4⟩, hB4⟩
      go_wp2_with fail
      refine (sameB_any _ _ _ _ _ ((hown2.vw.below hB3 (Nat.le_refl _)).below hB4 (Nat.le_refl _)) ((((HV.out.below hB1 (Nat.le_refl _)).below hB2 (Nat.le_refl _)).below hB3 (Nat.le_refl _)).below hB4 (Nat.le_refl _)) hl hl).mono ?_
      rintro e w5 ⟨rfl, n, rfl⟩
      rw [decide_eq_true rfl]
      go_wp2_with fail
      refine (same_any _ _ _ _ _ (hown4.vw.drewN n) (((((HU.out.below hB1 (Nat.le_refl _)).below hB2 (Nat.le_refl _)).below hB3 (Nat.le_refl _)).below hB4 (Nat.le_refl _)).drewN n) hl2 hl2).mono ?_
      rintro e w6 ⟨rfl, n6, rfl⟩
      rw [decide_eq_true rfl]
      go_wp2_with (go_at_call 14; refine (known4 _).mono ?_; rintro e w7 ⟨rfl, hB7⟩)
      go_ret
      exact ⟨rfl, below_then (below_then (below_then (below_then (below_then hB1 hB2) hB3) hB4) (below_drewN _ (n + n6))) hB7⟩
    · have hy2 : (y != 0) = true := by simp [hy]
      generalize Scr.iR i D = R at C3
      obtain ⟨D2, y2⟩ := R
      clear T2 hy
      go_enter Try.func10, Try.ntmps10
      go_wp2_with fail
      refine (C0.out _ HV.out).mono ?_
      rintro e w1 ⟨⟨v1, rfl, hown1⟩, hB1⟩
      go_wp2_with fail
      refine (C1.out _ _ hown1.vw).mono ?_
      rintro e w2 ⟨⟨v2, rfl, hown2⟩, hB2⟩
      go_wp2_with fail
      refine (C2.out _ ((HU.out.below hB1 (Nat.le_refl _)).below hB2 (Nat.le_refl _))).mono ?_
      rintro e w3 ⟨⟨v3, rfl, hown3⟩, hB3⟩
      go_wp2_with fail
      refine (C3.out _ _ hown3.vw).mono ?_
      rintro e w4 ⟨⟨v4, rfl, hown4⟩, hB4⟩
      go_wp2_with fail
      refine (sameB_any _ _ _ _ _ ((hown2.vw.below hB3 (Nat.le_refl _)).below hB4 (Nat.le_refl _)) ((((HV.out.below hB1 (Nat.le_refl _)).below hB2 (Nat.le_refl _)).below hB3 (Nat.le_refl _)).below hB4 (Nat.le_refl _)) hl hl).mono ?_
      rintro e w5 ⟨rfl, n, rfl⟩
      rw [decide_eq_true rfl]
      go_wp2_with (go_at_call 14; refine (known4 _).mono ?_; rintro e w7 ⟨rfl, hB7⟩)
      go_ret
      exact ⟨rfl, below_then (below_then (below_then (below_then (below_then hB1 hB2) hB3) hB4) (below_drewN _ n)) hB7⟩
  · have hx2 : (x == 0) = false := by simp [hx]
    generalize Scr.bR i A = R at C1
    obtain ⟨A2, x2⟩ := R
    clear T1 hx
    by_cases hy : y = 0
    · subst hy
      have e2 := T2.out rfl
      rw [e2] at C3
      clear e2 T2
      go_enter Try.func10, Try.ntmps10
      go_wp2_with fail
      refine (C0.out _ HV.out).mono ?_
      rintro e w1 ⟨⟨v1, rfl, hown1⟩, hB1⟩
      go_wp2_with fail
      refine (C1.out _ _ hown1.vw).mono ?_
      rintro e w2 ⟨⟨v2, rfl, hown2⟩, hB2⟩
      go_wp2_with fail
      refine (C2.out _ ((HU.out.below hB1 (Nat.le_refl _)).below hB2 (Nat.le_refl _))).mono ?_
      rintro e w3 ⟨⟨v3, rfl, hown3⟩, hB3⟩
      go_wp2_with fail
      refine (C3.out _ _ hown3.vw).mono ?_
      rintro e w4 ⟨⟨v4, rfl, hown4⟩, hB4⟩
      go_wp2_with fail
      refine (same_any _ _ _ _ _ (hown4.vw) (((((HU.out.below hB1 (Nat.le_refl _)).below hB2 (Nat.le_refl _)).below hB3 (Nat.le_refl _)).below hB4 (Nat.le_refl _))) hl2 hl2).mono ?_
      rintro e w6 ⟨rfl, n6, rfl⟩
      rw [decide_eq_true rfl]
      go_wp2_with (go_at_call 14; refine (known4 _).mono ?_; rintro e w7 ⟨rfl, hB7⟩)
      go_ret
      exact ⟨rfl, below_then (below_then (below_then (below_then (below_then hB1 hB2) hB3) hB4) (below_drewN _ n6)) hB7⟩
    · have hy2 : (y != 0) = true := by simp [hy]
      generalize Scr.iR i D = R at C3
      obtain ⟨D2, y2⟩ := R
      clear T2 hy
      go_enter Try.func10, Try.ntmps10
      go_wp2_with fail
      refine (C0.out _ HV.out).mono ?_
      rintro e w1 ⟨⟨v1, rfl, hown1⟩, hB1⟩
      go_wp2_with fail
      refine (C1.out _ _ hown1.vw).mono ?_
      rintro e w2 ⟨⟨v2, rfl, hown2⟩, hB2⟩
      go_wp2_with fail
      refine (C2.out _ ((HU.out.below hB1 (Nat.le_refl _)).below hB2 (Nat.le_refl _))).mono ?_
      rintro e w3 ⟨⟨v3, rfl, hown3⟩, hB3⟩
      go_wp2_with fail
      refine (C3.out _ _ hown3.vw).mono ?_
      rintro e w4 ⟨⟨v4, rfl, hown4⟩, hB4⟩
      go_wp2_with (go_at_call 14; refine (known4 _).mono ?_; rintro e w7 ⟨rfl, hB7⟩)
      go_ret
      exact ⟨rfl, below_then (below_then (below_then (below_then hB1 hB2) hB3) hB4) hB7⟩
end Go.Proofs.Ytmiaddcjedjjdaa

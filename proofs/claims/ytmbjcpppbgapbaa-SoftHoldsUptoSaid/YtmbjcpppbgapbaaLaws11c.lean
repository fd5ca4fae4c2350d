/- userplanelaw11.SoftHolds. -/
import Derived.Test.YtmbjcpppbgapbaaLaws11b
import Derived.Test.YtmbjcpppbgapbaaSoftP
import Derived.Deep.Cut
import Derived.Deep.CutRange
import Derived.Deep.DeepCutAuto
namespace Go.Proofs.Ytmbjcpppbgapbaa
open Go.RowKit Go.Shelf
set_option linter.unusedVariables false
theorem add_at (a b x : Int) (h : Soft.add a b = x) : ∀ w, Calls Try.prog 12 #[.int .i64 a, .int .i64 b] w fun e w' => e = .returned (.int .i64 x) ∧ Below w.heap.size w w' := fun w => by rw [← h]; exact add_any a b w
theorem clamp_at (a x : Int) (h : Soft.clamp a = x) : ∀ w, Calls Try.prog 10 #[.int .i64 a] w fun e w' => e = .returned (.int .i64 x) ∧ Below w.heap.size w w' := fun w => by rw [← h]; exact clamp_any a w
def Signs (a b c : Int) : Prop := (0 ≤ a ∧ 0 ≤ b ∧ 0 ≤ c) ∨ (a ≤ 0 ∧ b ≤ 0 ∧ c ≤ 0)
set_option maxRecDepth 100000 in
set_option maxHeartbeats 4000000 in
theorem law_SoftHolds (w : World) (a b c : Int) (va : Value) (A : List Int) (vb : Value) (B : List Int) (m : Int) (w0 : IntsIn .i64 w va A) (w1 : IntsIn .u8 w vb B) (hBl : B.length ≤ 1048576) :
    Calls Try.prog 8 #[.int .i64 a, .int .i64 b, .int .i64 c, va, vb, .int .i64 m] w fun e w' => e = .returned (.bool true) ∧ Below w.heap.size w w' := by
  obtain ⟨hva, hl, _⟩ := w0
  obtain ⟨hvb, _, hwf⟩ := w1
  have HA := hid hva
  have HB := hid hvb
  have HBl := hid hBl
  clear hBl
  by_cases h : 300 < A.length
  · obtain ⟨a', c', rfl, _⟩ := hva
    rw [List.length_map]
    have hd : decide (300 < (A.length : Int)) = true := by simp; omega
    clear hwf
    go_enter Try.func8, Try.ntmps8
    go_wp2_with (go_at_call 14; refine (works11 _).mono ?_; rintro e w3 ⟨rfl, B3⟩)
    go_ret
    exact ⟨rfl, B3⟩
  have hd : decide (300 < (A.length : Int)) = false := by simp; omega
  have HW := hid hwf
  clear hwf
  -- the saturating sums
  obtain ⟨x, hx⟩ : ∃ x, x = Soft.add a b := ⟨_, rfl⟩
  have C1 := hid (add_at a b x hx.symm)
  have C2 := hid (add_at b a x (by rw [hx, Soft.add_comm]))
  obtain ⟨z, hz⟩ : ∃ z, z = Soft.add c b := ⟨_, rfl⟩
  have C3 := hid (add_at c b z hz.symm)
  have hmono : a ≤ c → x ≤ z := fun h => by rw [hx, hz]; exact Soft.add_mono b h
  obtain ⟨ca, hca⟩ : ∃ ca, ca = Soft.clamp a := ⟨_, rfl⟩
  have C4 := hid (clamp_at a ca hca.symm)
  have C5 := hid (add_at ca 0 ca (by rw [hca, Soft.add_zero]))
  have hx1 : -127 ≤ x := by rw [hx]; exact Soft.add_lo a b
  have hx2 : x ≤ 127 := by rw [hx]; exact Soft.add_hi a b
  obtain ⟨y, hy⟩ : ∃ y, y = Soft.add b c := ⟨_, rfl⟩
  have C6 := hid (add_at b c y hy.symm)
  obtain ⟨u, hu⟩ : ∃ u, u = Soft.add a y := ⟨_, rfl⟩
  have C7 := hid (add_at a y u hu.symm)
  have C8 := hid (show Signs a b c → ∀ w, Calls Try.prog 12 #[.int .i64 x, .int .i64 c] w fun e w' => e = .returned (.int .i64 u) ∧ Below w.heap.size w w' from fun hs => add_at x c u (by
    rw [hx, hu, hy]
    rcases hs with ⟨h1, h2, h3⟩ | ⟨h1, h2, h3⟩
    · exact Soft.add_assoc_pos h1 h2 h3
    · exact Soft.add_assoc_neg h1 h2 h3))
  have HM := hid hmono
  clear hx hz hca hy hu hmono
  have hxx : (x != x) = false := by simp
  have hcc : (ca != ca) = false := by simp
  have huu : (u != u) = false := by simp
  have CI := hid (fun w h => ideal_any w vb B m h (by have := HBl.out; omega) HW.out)
  have CV := hid (fun w h => refValid_any w va A h hl)
  obtain ⟨a', c', rfl, _⟩ := hva
  obtain ⟨b', d', rfl, _⟩ := hvb
  rw [List.length_map] at HA CV ⊢
  rw [List.length_map] at HB CI ⊢
  go_enter Try.func8, Try.ntmps8
  go_wp2_with fail
  refine (C1.out _).mono ?_
  rintro e wa ⟨rfl, Ba⟩
  go_upto_region 4 with fail
  go_cut [68] (fun s wx => s = .bool false ∧ Below w.heap.size w wx)
  case first =>
    go_wp2_with fail
    refine (C2.out _).mono ?_
    rintro e wb ⟨rfl, Bb⟩
    have B2 := below_then Ba Bb
    clear Ba Bb
    by_cases hac : a ≤ c
    · have hxz := HM.out hac
      go_wp2_with fail
      refine (C3.out _).mono ?_
      rintro e wc ⟨rfl, Bc⟩
      have B3 := below_then B2 Bc
      clear B2 Bc
      go_wp2_with fail
      refine (C4.out _).mono ?_
      rintro e wd ⟨rfl, Bd⟩
      go_wp2_with fail
      refine (C5.out _).mono ?_
      rintro e we ⟨rfl, Be⟩
      go_wp2_with fail
      refine (C4.out _).mono ?_
      rintro e wf ⟨rfl, Bf⟩
      go_wp2_with fail
      go_meet
      case rel => exact ⟨by simp <;> omega, below_then (below_then (below_then B3 Bd) Be) Bf⟩
    · go_wp2_with fail
      refine (C4.out _).mono ?_
      rintro e wd ⟨rfl, Bd⟩
      go_wp2_with fail
      refine (C5.out _).mono ?_
      rintro e we ⟨rfl, Be⟩
      go_wp2_with fail
      refine (C4.out _).mono ?_
      rintro e wf ⟨rfl, Bf⟩
      go_wp2_with fail
      go_meet
      case rel => exact ⟨by simp <;> omega, below_then (below_then (below_then B2 Bd) Be) Bf⟩
  case rest =>
    obtain ⟨rfl, Bx⟩ := hcut
    clear C2 C3 C4 C5 HM hxx hcc hx1 hx2
    go_upto_region 6 with fail
    go_cut [90] (fun s wx => (∃ q : Bool, s = .bool q ∧ Hid (q = true → Signs a b c)) ∧ Below w.heap.size w wx)
    case first =>
      go_wp2_with fail
      all_goals (
        go_meet
        case rel => exact ⟨⟨_, rfl, fun h => by unfold Signs; simp at h <;> omega⟩, Bx⟩)
    case rest =>
      clear Bx
      obtain ⟨⟨q, rfl, HQ⟩, Bx⟩ := hcut
      go_upto_if 90 with fail
      go_cut [] (fun wx => Below w.heap.size w wx)
      case first =>
        cases q with
        | true =>
          have HS := HQ.out rfl
          have C8' := hid (C8.out HS)
          clear HS C8
          go_wp2_with fail
          refine (C8'.out _).mono ?_
          rintro e wb ⟨rfl, Bb⟩
          go_wp2_with fail
          refine (C6.out _).mono ?_
          rintro e wc ⟨rfl, Bc⟩
          go_wp2_with fail
          refine (C7.out _).mono ?_
          rintro e wd ⟨rfl, Bd⟩
          go_wp2_with fail
          go_meet
          case rel => exact below_then (below_then (below_then Bx Bb) Bc) Bd
        | false =>
          go_wp2_with fail
          go_meet
          case rel => exact Bx
      case rest =>
        clear Bx C6 C7 C8 huu HQ
        have Bx := hcut
        clear hcut
        by_cases e1 : m < 0
        · rw [Soft.idlR_arg (.inl e1)] at CI
          go_wp2_with fail
          refine (CI.out _ (HB.out.below Bx (Nat.le_refl _))).mono ?_
          rintro e w1 ⟨⟨v1, rfl, V1⟩, B1⟩
          have By := below_then Bx B1
          clear B1 V1
          go_wp2_with (first
                    | (go_at_call 18; refine (num_any _ _).mono ?_; rintro r w' ⟨rfl, rfl⟩)
                    | (go_at_call 20; refine (CV.out _ (HA.out.below By (Nat.le_refl _))).mono ?_; rintro r w' ⟨rfl, rfl⟩)
                    | (go_at_call 14; refine (works11 _).mono ?_; rintro e w3 ⟨rfl, B3⟩))
          go_ret
          exact ⟨rfl, below_then By B3⟩
        by_cases e2 : 127 < m
        · rw [Soft.idlR_arg (.inr e2)] at CI
          go_wp2_with fail
          refine (CI.out _ (HB.out.below Bx (Nat.le_refl _))).mono ?_
          rintro e w1 ⟨⟨v1, rfl, V1⟩, B1⟩
          have By := below_then Bx B1
          clear B1 V1
          go_wp2_with (first
                    | (go_at_call 18; refine (num_any _ _).mono ?_; rintro r w' ⟨rfl, rfl⟩)
                    | (go_at_call 20; refine (CV.out _ (HA.out.below By (Nat.le_refl _))).mono ?_; rintro r w' ⟨rfl, rfl⟩)
                    | (go_at_call 14; refine (works11 _).mono ?_; rintro e w3 ⟨rfl, B3⟩))
          go_ret
          exact ⟨rfl, below_then By B3⟩
        cases hbB : Soft.bbad B with
        | true =>
          rw [Soft.idlR_bit (by omega) (by omega) hbB] at CI
          clear hbB
          go_wp2_with fail
          refine (CI.out _ (HB.out.below Bx (Nat.le_refl _))).mono ?_
          rintro e w1 ⟨⟨v1, rfl, V1⟩, B1⟩
          have By := below_then Bx B1
          clear B1 V1
          go_wp2_with (first
                    | (go_at_call 18; refine (num_any _ _).mono ?_; rintro r w' ⟨rfl, rfl⟩)
                    | (go_at_call 20; refine (CV.out _ (HA.out.below By (Nat.le_refl _))).mono ?_; rintro r w' ⟨rfl, rfl⟩)
                    | (go_at_call 14; refine (works11 _).mono ?_; rintro e w3 ⟨rfl, B3⟩))
          go_ret
          exact ⟨rfl, below_then By B3⟩
        | false =>
          rw [Soft.idlR_ok (by omega) (by omega) hbB] at CI
          by_cases e3 : m < 1
          · clear hbB
            go_wp2_with fail
            refine (CI.out _ (HB.out.below Bx (Nat.le_refl _))).mono ?_
            rintro e w1 ⟨⟨v1, rfl, V1⟩, B1⟩
            have By := below_then Bx B1
            clear B1 V1
            go_wp2_with (first
                    | (go_at_call 18; refine (num_any _ _).mono ?_; rintro r w' ⟨rfl, rfl⟩)
                    | (go_at_call 20; refine (CV.out _ (HA.out.below By (Nat.le_refl _))).mono ?_; rintro r w' ⟨rfl, rfl⟩)
                    | (go_at_call 14; refine (works11 _).mono ?_; rintro e w3 ⟨rfl, B3⟩))
            go_ret
            exact ⟨rfl, below_then By B3⟩
          cases hbA : Soft.bad A with
          | true =>
            rw [hbA] at CV
            clear hbA hbB
            go_wp2_with fail
            refine (CI.out _ (HB.out.below Bx (Nat.le_refl _))).mono ?_
            rintro e w1 ⟨⟨v1, rfl, V1⟩, B1⟩
            have By := below_then Bx B1
            clear B1 V1
            go_wp2_with (first
                    | (go_at_call 18; refine (num_any _ _).mono ?_; rintro r w' ⟨rfl, rfl⟩)
                    | (go_at_call 20; refine (CV.out _ (HA.out.below By (Nat.le_refl _))).mono ?_; rintro r w' ⟨rfl, rfl⟩)
                    | (go_at_call 14; refine (works11 _).mono ?_; rintro e w3 ⟨rfl, B3⟩))
            go_ret
            exact ⟨rfl, below_then By B3⟩
          | false =>
            rw [hbA] at CV
            by_cases hlen : A.length = B.length
            · have hle : ((A.length : Int) != (B.length : Int)) = false := by simp [hlen]
              have hbits : ∀ i, i < B.length → B.getD i 0 = 0 ∨ B.getD i 0 = 1 := fun i hi => Soft.bit_of (Soft.bbad_at hbB hi) (HW.out _ (by simp [List.getD, hi]))
              have hm1 : 1 ≤ m := by omega
              have hm2 : m ≤ 127 := by omega
              have CH := hid (fun w v h => hard_any w v (Soft.tab (Soft.idlG B m) B.length) h (by rw [Soft.tab_len]; have := HBl.out; omega))
              rw [Soft.hard_ideal hm1 hm2 hbits] at CH
              have CC := hid (fun w v vb h h' => compare_any w v vb (Soft.tab (Soft.idlG B m) B.length) B h h' (by rw [Soft.tab_len]; have := HBl.out; omega) (by have := HBl.out; omega) HW.out)
              rw [Soft.cmp_ideal hm1 hm2 hbB hbits] at CC
              obtain ⟨p, q', p', q'', hc1, hc2, hpp⟩ := Soft.cmp_sum hm1 hm2 hbA hlen hbB hbits
              have CA := hid (fun w v vb h h' => compare_any w v vb A B h h' hl (by have := HBl.out; omega) HW.out)
              rw [hc2] at CA
              have CS := hid (fun w v vb h h' => sum_any w v vb A (Soft.tab (Soft.idlG B m) B.length) h h' (by omega) (by rw [Soft.tab_len]; have := HBl.out; omega))
              rw [Soft.sum_ideal hm1 hm2 hbA hlen] at CS
              have CD := hid (fun w v vb h h' => compare_any w v vb (Soft.tab (Soft.sumG A (Soft.tab (Soft.idlG B m) B.length)) A.length) B h h' (by rw [Soft.tab_len]; omega) (by have := HBl.out; omega) HW.out)
              rw [hc1] at CD
              have hdp : decide ((p : Int) ≤ (p' : Int)) = true := by simp; omega
              have hdn : decide (p ≤ p') = true := by simp; omega
              clear hc1 hc2 hpp hbits hbB hbA hlen
              dsimp only at CH CC CA CS CD
              generalize Soft.tab (Soft.sumG A (Soft.tab (Soft.idlG B m) B.length)) A.length = S at *
              generalize Soft.tab (Soft.idlG B m) B.length = I at *
              go_wp2_with fail
              refine (CI.out _ (HB.out.below Bx (Nat.le_refl _))).mono ?_
              rintro e w1 ⟨⟨v1, rfl, V1⟩, B1⟩
              have By := below_then Bx B1
              clear B1 Bx
              go_wp2_with (first
                | (go_at_call 18; refine (num_any _ _).mono ?_; rintro r w' ⟨rfl, rfl⟩)
                | (go_at_call 20; refine (CV.out _ (HA.out.below By (Nat.le_refl _))).mono ?_; rintro r w' ⟨rfl, rfl⟩))
              refine (CH.out _ _ V1).mono ?_
              rintro e w2 ⟨⟨v2, rfl, V2⟩, B2⟩
              have V1' := V1.below B2 (Nat.le_refl _)
              have By2 := below_then By B2
              clear B2 By V1
              go_wp2_with fail
              refine (CC.out _ _ _ V1' (HB.out.below By2 (Nat.le_refl _))).mono ?_
              rintro e w3 ⟨rfl, B3⟩
              have V1 := V1'.below B3 (Nat.le_refl _)
              have V2' := V2.below B3 (Nat.le_refl _)
              have By3 := below_then By2 B3
              clear B3 By2 V1' V2
              go_wp2_with fail
              refine (CA.out _ _ _ (HA.out.below By3 (Nat.le_refl _)) (HB.out.below By3 (Nat.le_refl _))).mono ?_
              rintro e w4 ⟨rfl, B4⟩
              have V1' := V1.below B4 (Nat.le_refl _)
              have V2 := V2'.below B4 (Nat.le_refl _)
              have By4 := below_then By3 B4
              clear B4 By3 V1 V2'
              go_wp2_with fail
              refine (CS.out _ _ _ (HA.out.below By4 (Nat.le_refl _)) V1').mono ?_
              rintro e w5 ⟨⟨v5, rfl, V5⟩, B5⟩
              have V2' := V2.below B5 (Nat.le_refl _)
              have By5 := below_then By4 B5
              clear B5 By4 V1' V2
              go_wp2_with fail
              refine (CD.out _ _ _ V5 (HB.out.below By5 (Nat.le_refl _))).mono ?_
              rintro e w6 ⟨rfl, B6⟩
              have V2 := V2'.below B6 (Nat.le_refl _)
              have By6 := below_then By5 B6
              clear B6 By5 V5 V2'
              have hs1 := run_bstr (P := Try.prog) w6 38 9 5 Try.underlying38 Try.underlying5 Try.underlying9 v2 B V2
              have hs2 := run_bstr (P := Try.prog) w6 38 9 5 Try.underlying38 Try.underlying5 Try.underlying9 _ B (HB.out.below By6 (Nat.le_refl _))
              generalize strOfNums B = s at hs1 hs2
              clear V2
              go_wp2_with (first
                | (go_at_call 18; refine (num_any _ _).mono ?_; rintro r w' ⟨rfl, rfl⟩)
                | (go_at_call 14; refine (works11 _).mono ?_; rintro e w7 ⟨rfl, B7⟩))
              go_ret
              exact ⟨rfl, below_then By6 B7⟩
            · have hle : ((A.length : Int) != (B.length : Int)) = true := by simp; omega
              clear hlen hbA hbB
              go_wp2_with fail
              refine (CI.out _ (HB.out.below Bx (Nat.le_refl _))).mono ?_
              rintro e w1 ⟨⟨v1, rfl, V1⟩, B1⟩
              have By := below_then Bx B1
              clear B1 V1
              go_wp2_with (first
                    | (go_at_call 18; refine (num_any _ _).mono ?_; rintro r w' ⟨rfl, rfl⟩)
                    | (go_at_call 20; refine (CV.out _ (HA.out.below By (Nat.le_refl _))).mono ?_; rintro r w' ⟨rfl, rfl⟩)
                    | (go_at_call 14; refine (works11 _).mono ?_; rintro e w3 ⟨rfl, B3⟩))
              go_ret
              exact ⟨rfl, below_then By B3⟩
end Go.Proofs.Ytmbjcpppbgapbaa

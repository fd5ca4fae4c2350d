/- userplanelaw12: the examples of the chapter hold. -/
import Derived.Test.YtpnmfnjpbhjddaaDemW
namespace Go.Proofs.Ytpnmfnjpbhjddaa
open Go.RowKit Go.Shelf
set_option linter.unusedVariables false
attribute [local go_sem ↓] Go.wp_at_zero Go.wp_at_succ
set_option maxRecDepth 100000 in
set_option maxHeartbeats 4000000 in
theorem works12 (w : World) : Calls Try.prog 6 #[] w fun e w' => e = .returned (.bool true) ∧ Below w.heap.size w w' := by
  have C1 := hid (fun w => dnew_bad 39 0 1000 De.k_v1 w)
  have C2 := hid (fun w => dnew_bad 40 40 1000 De.k_v2 w)
  have C3 := hid (show ∀ w, Calls Try.prog 7 #[.int .i64 40, .int .i64 0, .int .i64 1000] w _ from fun w => dnew_ok 40 0 1000 De.k_v3 w)
  have C4 := hid (show ∀ w, Calls Try.prog 7 #[.int .i64 40, .int .i64 4, .int .i64 1000] w _ from fun w => dnew_ok 40 4 1000 De.k_v4 w)
  have CR := hid (show ∀ w, Calls Try.prog 17 #[.int .i64 100, .int .i64 5] w _ from fun w => repeat_any 100 5 (by omega) w)
  go_enter Try.func6, Try.ntmps6
  go_wp2_with fail
  refine (C1.out _).mono ?_
  rintro r w1 ⟨rfl, B1⟩
  go_wp2_with fail
  refine (C2.out _).mono ?_
  rintro r w2 ⟨rfl, B2⟩
  go_wp2_with fail
  refine (C3.out _).mono ?_
  rintro r w3 ⟨⟨ga, qa, rfl, hga, hqa, hDa⟩, B3⟩
  go_wp2_with fail
  refine (C4.out _).mono ?_
  rintro r w4 ⟨⟨gb, qb, rfl, hgb, hqb, hDb⟩, B4⟩
  have hlga := hDa.lt.1
  have hlqa := hDa.lt.2
  have HDa := hid (hDa.blw B4)
  have HDb := hid hDb
  have HB4 := hid (below_then (below_then (below_then B1 B2) B3) B4)
  have hs34 := B4.size
  have hsw2 := (below_then B1 B2).size
  clear hDa hDb B1 B2 B3 B4 C1 C2 C3 C4
  have CK := hid (dknown_any HDa.out (by rw [De.freshN_len]; omega))
  rw [De.k_k0] at CK
  go_wp2_with (first
    | (go_at_call 9; refine (num_any _ _).mono ?_; rintro r w' ⟨rfl, rfl⟩)
    | fail)
  refine CK.out.mono ?_
  rintro r w5 ⟨rfl, B5⟩
  have HDa5 := hid (HDa.out.blw B5)
  have HDb5 := hid (HDb.out.blw B5)
  have CK2 := hid (dknown_any HDb5.out (by rw [De.freshN_len]; omega))
  rw [De.k_k4] at CK2
  have HB5 := hid (below_then HB4.out B5)
  have hs5 := B5.size
  clear B5 CK HDa HDb HB4
  go_wp2_with fail
  refine CK2.out.mono ?_
  rintro r w6 ⟨rfl, B6⟩
  have HDa6 := hid (HDa5.out.blw B6)
  have HDb6 := hid (HDb5.out.blw B6)
  have CV := hid (dvalues_any HDb6.out (by rw [De.freshN_len]; omega))
  have HB6 := hid (below_then HB5.out B6)
  have hs6 := B6.size
  clear B6 CK2 HDa5 HDb5 HB5
  go_wp2_with fail
  refine CV.out.mono ?_
  rintro r w7 ⟨⟨v7, rfl, hO7⟩, B7⟩
  obtain ⟨a7, c7, rfl⟩ := hO7.is_slice
  rw [List.length_map, De.freshN_len] at hO7
  have HO7 := hid hO7
  have HDa7 := hid (HDa6.out.blw B7)
  have HB7 := hid (below_then HB6.out B7)
  have hs7 := B7.size
  clear B7 CV HDa6 HDb6 HB6 hO7
  rw [List.length_map, De.freshN_len]
  go_wp2_with fail
  refine (CR.out _).mono ?_
  rintro r w8 ⟨⟨g8, rfl, hO8⟩, B8⟩
  have HDa8 := hid (HDa7.out.blw B8)
  have HO7b := hid (HO7.out.blw B8)
  have HB8 := hid (below_then HB7.out B8)
  have hs8 := B8.size
  have CA := hid (dadd_ok 0 HDa8.out (L := De.W5) hO8.vw (by decide) De.k_b5 De.k_p2 (by rw [De.freshN_len]; omega) (De.posR_ok De.k_v3 De.k_p2).1 (fun i hi => by obtain ⟨j, h1, h2, _⟩ := (De.posR_ok De.k_v3 De.k_p2).2 i hi; exact ⟨j, h1, by rw [De.freshN_len]; omega⟩)
    (fun b off n c e h0 => by have := (hO8.block (g := g8) rfl).1; simp only [Value.slice.injEq, Option.some.injEq, Addr.mk.injEq] at e; omega) (Int.le_refl _) (by decide))
  clear hO8 B8 HDa7 HO7 HB7
  go_wp2_with fail
  refine CA.out.mono ?_
  rintro r w9 ⟨rfl, hD9, hF9⟩
  rw [De.W5_len] at hD9
  have HD9 := hid (show DB w9 ga qa 40 0 1000 De.V1 5 from hD9)
  have HO9 := hid (HO7b.out.addfr hF9 (by omega) (by omega))
  have HB9 := hid (HB8.out.trans (hF9.below HB8.out.size (fun j hj e => by omega)))
  have hs9 := hF9.size
  have CK9 := hid (dknown_any HD9.out (by rw [De.V1_len]; omega))
  rw [De.k_k1] at CK9
  clear hD9 hF9 CA HO7b HB8 HDa8
  go_wp2_with fail
  refine CK9.out.mono ?_
  rintro r w10 ⟨rfl, B10⟩
  have HD10 := hid (HD9.out.blw B10)
  have HO10 := hid (HO9.out.blw B10)
  have HB10 := hid (below_then HB9.out B10)
  have hs10 := B10.size
  clear B10 CK9 HD9 HO9 HB9
  go_wp2_with fail
  refine (CR.out _).mono ?_
  rintro r w11 ⟨⟨g11, rfl, hO11⟩, B11⟩
  have HD11 := hid (HD10.out.blw B11)
  have HO11 := hid (HO10.out.blw B11)
  have HB11 := hid (below_then HB10.out B11)
  have hs11 := B11.size
  have CA := hid (dadd_ok 0 HD11.out (L := De.W5) hO11.vw (by decide) De.k_b5 De.k_p2 (by rw [De.V1_len]; omega) (De.posR_ok De.k_v3 De.k_p2).1 (fun i hi => by obtain ⟨j, h1, h2, _⟩ := (De.posR_ok De.k_v3 De.k_p2).2 i hi; exact ⟨j, h1, by rw [De.V1_len]; omega⟩)
    (fun b off n c e h0 => by have := (hO11.block (g := g11) rfl).1; simp only [Value.slice.injEq, Option.some.injEq, Addr.mk.injEq] at e; omega) (by decide) (by decide))
  clear hO11 B11 HD10 HO10 HB10
  go_wp2_with fail
  refine CA.out.mono ?_
  rintro r w12 ⟨rfl, hD12, hF12⟩
  rw [De.W5_len, show ((5 : Int) + ((5 : Nat) : Int)) = 10 from rfl] at hD12
  have HD12 := hid (show DB w12 ga qa 40 0 1000 De.V2 10 from hD12)
  have HO12 := hid (HO11.out.addfr hF12 (by omega) (by omega))
  have HB12 := hid (HB11.out.trans (hF12.below HB11.out.size (fun j hj e => by omega)))
  have hs12 := hF12.size
  have CV := hid (dvalues_any HD12.out (by rw [De.V2_len]; omega))
  clear hD12 hF12 CA HO11 HB11 HD11 CR
  go_wp2_with fail
  refine CV.out.mono ?_
  rintro r w13 ⟨⟨v13, rfl, hO13⟩, B13⟩
  obtain ⟨a13, c13, rfl⟩ := hO13.is_slice
  rw [List.length_map, De.V2_len] at hO13
  obtain ⟨g13, rfl⟩ := hO13.shape' (by rw [List.length_map, De.V2_len]; omega)
  have HD13 := hid (HD12.out.blw B13)
  have HO13 := hid (HO12.out.blw B13)
  have HB13 := hid (below_then HB12.out B13)
  have HQ13 := hid hO13
  have hs13 := B13.size
  clear B13 CV HD12 HO12 HB12 hO13
  rw [List.length_map, De.V2_len]
  go_wp2_with fail
  have BA := below_alloc w13 (.cells #[.int .i64 1] 3)
  have hV14 : Vw (w13.alloc (.cells #[.int .i64 1] 3)) (.slice (some ⟨w13.heap.size, 0, none⟩) 1 1) (([1] : List Int).map (Value.int .i64)) := Vw.lit w13 #[.int .i64 1] 3 1 rfl
  generalize World.alloc _ _ = wA at BA hV14 ⊢
  have CA := hid (dadd_err 4 2 (HD13.out.blw BA) (L := [1]) hV14 (by decide) De.bad_one De.k_p4 (by decide))
  have HDA := hid (HD13.out.blw BA)
  have HOA := hid (HO13.out.blw BA)
  have HQA := hid (HQ13.out.blw BA)
  have HBA := hid (below_then HB13.out BA)
  clear hV14 BA HD13 HO13 HQ13 HB13
  refine CA.out.mono ?_
  rintro r w14 ⟨rfl, B14⟩
  have HD14 := hid (HDA.out.blw B14)
  have HO14 := hid (HOA.out.blw B14)
  have HQ14 := hid (HQA.out.blw B14)
  have HB14 := hid (below_then HBA.out B14)
  obtain ⟨g7, rfl⟩ := HO14.out.shape' (by rw [List.length_map, De.freshN_len]; omega)
  have x3 : w14.cell? ⟨g7, 3, none⟩ = some (.int .i64 127) := by
    have := HO14.out.at 3 (by rw [List.length_map, De.freshN_len]; omega)
    rw [List.getElem_map, show (De.freshN 40 4)[3]'(by rw [De.freshN_len]; omega) = 127 from by have := De.k_f3; rwa [List.getD_eq_getElem?_getD, List.getElem?_eq_getElem (by rw [De.freshN_len]; omega), Option.getD_some] at this] at this
    exact this
  have x4 : w14.cell? ⟨g7, 4, none⟩ = some (.int .i64 0) := by
    have := HO14.out.at 4 (by rw [List.length_map, De.freshN_len]; omega)
    rw [List.getElem_map, show (De.freshN 40 4)[4]'(by rw [De.freshN_len]; omega) = 0 from by have := De.k_f4; rwa [List.getD_eq_getElem?_getD, List.getElem?_eq_getElem (by rw [De.freshN_len]; omega), Option.getD_some] at this] at this
    exact this
  have HX3 := hid x3
  have HX4 := hid x4
  have CRc := hid (dreceived_any HD14.out)
  have HM2 := hid De.k_m2
  clear CA HDA HOA HQA HBA B14 x3 x4 HO14
  obtain ⟨mx, hmx⟩ : ∃ mx : Nat → Int, mx = De.maxN De.V2 := ⟨_, rfl⟩
  rw [← hmx] at HM2
  have HMX := hid hmx
  have HM0 := hid (show mx 0 = 0 by rw [hmx]; rfl)
  clear hmx
  go_wp2
  go_loopw [15, 16] (fun t i wr => ∃ m : Nat, m ≤ 132 ∧ i = .int .i64 m ∧ t = .int .i64 (mx m) ∧ wr = w14) (fun _ i _ => 132 - (intOf i).toNat)
  case atStart => exact ⟨0, Nat.zero_le _, rfl, by rw [HM0.out], rfl⟩
  case round =>
    obtain ⟨m, hm, rfl, rfl, rfl⟩ := hrel
    by_cases hlt : m < 132
    · have y := HQ14.out.at m (by rw [List.length_map, De.V2_len]; exact hlt)
      rw [List.getElem_map, show (De.V2)[m]'(by rw [De.V2_len]; exact hlt) = De.V2.getD m 0 by simp [List.getD, De.V2_len, hlt]] at y
      have hS := hid (show mx (m + 1) = if mx m < De.V2.getD m 0 then De.V2.getD m 0 else mx m by rw [HMX.out]; rfl)
      have hmx : (if mx m < De.V2.getD m 0 then De.V2.getD m 0 else mx m) = mx (m + 1) := hS.out.symm
      generalize De.V2.getD m 0 = x at *
      have HS2 := hid (fun n (h : n = m + 1) => (show mx (m + 1) = mx n by rw [h]))
      generalize mx (m + 1) = t1 at *
      generalize mx m = t0 at *
      go_wp2
      go_roundw
      case rel => exact ⟨m + 1, by omega, by go_num, by rw [HS2.out (m + 1) rfl], trivial⟩
      case measure => simp [intOf]; omega
    · obtain rfl : m = 132 := by omega
      rw [HM2.out]
      have x3 := HX3.out
      have x4 := HX4.out
      clear HM2 HMX HM0 hm hlt
      go_wp2_with (first
        | (go_at_call 9; refine (num_any _ _).mono ?_; rintro r w' ⟨rfl, rfl⟩)
        | fail)
      refine CRc.out.mono ?_
      rintro r w15 ⟨rfl, rfl⟩
      go_wp2_with (first
        | (go_at_call 9; refine (num_any _ _).mono ?_; rintro r w' ⟨rfl, rfl⟩)
        | fail)
      go_ret
      exact ⟨rfl, HB14.out⟩
end Go.Proofs.Ytpnmfnjpbhjddaa

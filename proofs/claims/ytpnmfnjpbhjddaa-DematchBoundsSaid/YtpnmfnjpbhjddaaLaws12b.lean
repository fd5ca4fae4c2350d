/- userplanelaw12.DematchBounds. -/
import Derived.Test.YtpnmfnjpbhjddaaDemX
namespace Go.Proofs.Ytpnmfnjpbhjddaa
open Go.RowKit Go.Shelf
set_option linter.unusedVariables false
attribute [local go_sem ↓] Go.wp_at_zero Go.wp_at_succ
namespace De
theorem fresh0 : freshN 40 0 = List.replicate 132 0 := rfl
theorem bad_zero (M : Nat) : Soft.bad (List.replicate M 0) = false := by
  refine Soft.bad_no fun i hi => ?_
  rw [List.getD_eq_getElem?_getD, List.getElem?_replicate, if_pos (by simpa using hi)]
  decide
theorem cnt40 : Rm.cnt (Rm.buf 40 0 (Rm.rows 40) (Rm.size 40 1000)) (Rm.size 40 1000) ≠ 0 := by decide +kernel
theorem posBd {rv : Int} (h1 : 0 ≤ rv) (h2 : rv ≤ 3) {n : Nat} (h3 : n ≤ 131072) : (Rm.posR ((40 : Nat) : Int) ((0 : Nat) : Int) 1000 rv n).2 = 0 := by
  unfold Rm.posR
  rw [if_pos ⟨k_v3, h1, h2, by omega, by omega⟩]
  split
  · rfl
  · rw [if_neg (by exact cnt40)]
end De
set_option maxRecDepth 100000 in
set_option maxHeartbeats 4000000 in
theorem law_DematchBounds (rv : Int) (past : Bool) (w0 : (Lit.int .i64 rv).wf = true) (w : World) :
    Calls Try.prog 4 #[.int .i64 rv, .bool past] w fun e w' => e = .returned (.bool true) ∧ Below w.heap.size w w' := by
  have CW := hid (fun w => works12 w)
  by_cases hlo : rv < 0
  · have hd : decide (rv < 0) = true := decide_eq_true hlo
    go_enter Try.func4, Try.ntmps4
    go_wp2_with fail
    refine (CW.out _).mono ?_
    rintro r w1 ⟨rfl, B1⟩
    go_wp2
    go_ret
    exact ⟨rfl, B1⟩
  by_cases hhi : 3 < rv
  · have hd : decide (rv < 0) = false := decide_eq_false hlo
    have hd2 : decide (3 < rv) = true := decide_eq_true hhi
    go_enter Try.func4, Try.ntmps4
    go_wp2_with fail
    refine (CW.out _).mono ?_
    rintro r w1 ⟨rfl, B1⟩
    go_wp2
    go_ret
    exact ⟨rfl, B1⟩
  have hd : decide (rv < 0) = false := decide_eq_false hlo
  have hd2 : decide (3 < rv) = false := decide_eq_false hhi
  have HR := hid (show 0 ≤ rv ∧ rv ≤ 3 by omega)
  have C3 := hid (show ∀ w, Calls Try.prog 7 #[.int .i64 40, .int .i64 0, .int .i64 1000] w _ from fun w => dnew_ok 40 0 1000 De.k_v3 w)
  clear hlo hhi w0
  cases past with
  | true =>
    obtain ⟨N, hN⟩ : ∃ N : Nat, N = 131073 := ⟨_, rfl⟩
    have HN := hid hN
    have hNi := hid (show (131073 : Int) = (N : Int) by omega)
    clear hN
    go_enter Try.func4, Try.ntmps4
    go_wp2_with fail
    refine (C3.out _).mono ?_
    rintro r w1 ⟨⟨g, q, rfl, hg, hq, hD⟩, B1⟩
    have HD := hid hD
    have HB := hid B1
    have hl1 := hD.lt.1
    have hl2 := hD.lt.2
    clear hD B1
    go_wp2_with (first
      | (at_make; refine wpList_run_value rfl (exec_make_one ielem_map (.tmp 24) (.tmp 24) rfl .i64 .i64 _ _ N N rfl rfl (by first | rfl | exact hNi.out) (by first | rfl | exact hNi.out) (Nat.le_refl _) (by rw [HN.out]; decide) (by rw [HN.out]; decide)) ?_;
         generalize hW2 : World.alloc _ _ = w2; have F2 : Fr (fun _ => False) w1 w2 := (by rw [← hW2]; exact Fr.alloc _ _ _);
         have HO2 := hid (show OwnL w2 w1.heap.size 3 (.slice (some ⟨w1.heap.size, 0, none⟩) N N) ((List.replicate N 0).map (Value.int .i64)) by rw [← hW2, List.map_replicate]; exact OwnL.zeros w1 _ _ _ _ (by omega) (by rw [HN.out]; decide));
         have HB2 := hid (F2.below (Nat.le_refl w1.heap.size) (fun _ _ h => h)); clear hW2 F2)
      | fail)
    have HD2 := hid (HD.out.blw HB2.out)
    have CA := hid (dadd_bad rv HD2.out (L := List.replicate N 0) HO2.out.vw (by rw [List.length_replicate, HN.out]; decide) (.inl (by rw [List.length_replicate, HN.out]; decide)))
    refine CA.out.mono ?_
    rintro r w3 ⟨rfl, B3⟩
    have HD3 := hid (HD2.out.blw B3)
    have CRc := hid (dreceived_any HD3.out)
    have HB3 := hid (below_then (below_then HB.out HB2.out) B3)
    clear HD HB HO2 HB2 HD2 CA B3
    go_wp2_with (first
      | (go_at_call 9; refine (num_any _ _).mono ?_; rintro r w' ⟨rfl, rfl⟩)
      | fail)
    refine CRc.out.mono ?_
    rintro r w4 ⟨rfl, rfl⟩
    go_wp2_with fail
    refine (CW.out _).mono ?_
    rintro r w5 ⟨rfl, B5⟩
    go_wp2
    go_ret
    exact ⟨rfl, below_then HB3.out B5⟩
  | false =>
    obtain ⟨N, hN⟩ : ∃ N : Nat, N = 131072 := ⟨_, rfl⟩
    have HN := hid hN
    have hNi := hid (show (131072 : Int) = (N : Int) by omega)
    clear hN
    go_enter Try.func4, Try.ntmps4
    go_wp2_with fail
    refine (C3.out _).mono ?_
    rintro r w1 ⟨⟨g, q, rfl, hg, hq, hD⟩, B1⟩
    have HD := hid hD
    have HB := hid B1
    have hl1 := hD.lt.1
    have hl2 := hD.lt.2
    clear hD B1
    go_wp2_with (first
      | (at_make; refine wpList_run_value rfl (exec_make_one ielem_map (.tmp 24) (.tmp 24) rfl .i64 .i64 _ _ N N rfl rfl (by first | rfl | exact hNi.out) (by first | rfl | exact hNi.out) (Nat.le_refl _) (by rw [HN.out]; decide) (by rw [HN.out]; decide)) ?_;
         generalize hW2 : World.alloc _ _ = w2; have F2 : Fr (fun _ => False) w1 w2 := (by rw [← hW2]; exact Fr.alloc _ _ _);
         have HO2 := hid (show OwnL w2 w1.heap.size 3 (.slice (some ⟨w1.heap.size, 0, none⟩) N N) ((List.replicate N 0).map (Value.int .i64)) by rw [← hW2, List.map_replicate]; exact OwnL.zeros w1 _ _ _ _ (by omega) (by rw [HN.out]; decide));
         have HB2 := hid (F2.below (Nat.le_refl w1.heap.size) (fun _ _ h => h)); clear hW2 F2)
      | fail)
    have HD2 := hid (HD.out.blw HB2.out)
    have hp := De.posBd HR.out.1 HR.out.2 (n := N) (by rw [HN.out]; exact Nat.le_refl _)
    have CA := hid (dadd_ok rv HD2.out (L := List.replicate N 0) HO2.out.vw (by rw [List.length_replicate, HN.out]; exact Nat.le_refl _) (De.bad_zero N) (by rw [List.length_replicate]; exact hp) (by rw [De.freshN_len]; omega) (by rw [List.length_replicate]; exact (De.posR_ok De.k_v3 hp).1)
      (fun i hi => by rw [List.length_replicate] at hi ⊢; obtain ⟨j, h1, h2, _⟩ := (De.posR_ok De.k_v3 hp).2 i hi; exact ⟨j, h1, by rw [De.freshN_len]; omega⟩)
      (fun b off n c e h0 => by have := (HO2.out.block (g := w1.heap.size) rfl).1; simp only [Value.slice.injEq, Option.some.injEq, Addr.mk.injEq] at e; omega) (Int.le_refl _) (by decide))
    clear hp
    refine CA.out.mono ?_
    rintro r w3 ⟨rfl, hD3, hF3⟩
    rw [De.fresh0, De.comb_zero, List.length_replicate, HN.out, show ((0 : Int) + ((131072 : Nat) : Int)) = 131072 from rfl] at hD3
    have HD3 := hid hD3
    have CRc := hid (dreceived_any HD3.out)
    have CK := hid (dknown_any HD3.out (by rw [List.length_replicate]; omega))
    rw [De.known_zero] at CK
    have hs2 := HB2.out.size
    have hs1 := HB.out.size
    have HB3 := hid ((below_then HB.out HB2.out).trans (hF3.below (by omega) (fun j hj e => by omega)))
    clear HD HB HO2 HB2 HD2 CA hD3 hF3
    go_wp2_with (first
      | (go_at_call 9; refine (num_any _ _).mono ?_; rintro r w' ⟨rfl, rfl⟩)
      | fail)
    refine CRc.out.mono ?_
    rintro r w4 ⟨rfl, rfl⟩
    go_wp2_with fail
    refine CK.out.mono ?_
    rintro r w4 ⟨rfl, B4⟩
    go_wp2_with fail
    refine (CW.out _).mono ?_
    rintro r w5 ⟨rfl, B5⟩
    go_wp2
    go_ret
    exact ⟨rfl, below_then (below_then HB3.out B4) B5⟩
end Go.Proofs.Ytpnmfnjpbhjddaa

/- userplanelaw18.NoiseNone. -/
import Derived.Test.YtngggknejkcepaaLaws18a
import Derived.Test.YtngggknejkcepaaSentQ
namespace Go.Proofs.Ytngggknejkcepaa
open Go.RowKit Go.Shelf
set_option linter.unusedVariables false
attribute [local go_sem] Oper.semAt_some
attribute [local go_sem ↓] Go.wp_at_zero Go.wp_at_succ
theorem points_none (w : World) (n : Value) (hC : Calls Try.prog 36 #[n] w fun r w' => r = .returned (.bool true) ∧ w = w') :
    Calls Try.prog 27 #[n, .slice none 0 0] w fun r w' => r = .returned (.tuple #[.slice none 0 0, .int .i64 1]) ∧ w = w' := by
  have HI : Calls Try.prog 57 #[.slice none 0 0, .func (.func 47) #[] #[]] w fun r w' => r = .returned (.int .i64 (-1)) ∧ w = w' := by
    clear hC
    go_enter Try.func57, Try.ntmps57
    go_wp2
    refine wp_loop_rounds 1 ?_
    rw [rounds_succ]
    go_wp2
    go_ret
    exact ⟨rfl, rfl⟩
  have HI' := hid HI
  clear HI
  have HC : Calls Try.prog 46 #[.slice none 0 0, .func (.func 47) #[] #[]] w fun r w' => r = .returned (.bool false) ∧ w = w' := by
    clear hC
    go_enter Try.func46, Try.ntmps46
    go_wp2_with fail
    refine HI'.out.mono ?_
    rintro r w1 ⟨rfl, rfl⟩
    go_wp2
    go_ret
    exact ⟨rfl, rfl⟩
  have HC' := hid HC
  have C := hid hC
  clear HC hC HI'
  go_enter Try.func27, Try.ntmps27
  go_wp2_with fail
  refine HC'.out.mono ?_
  rintro r w1 ⟨rfl, rfl⟩
  go_wp2_with fail
  refine (psent_none _ _ _ _ _ _ C.out).mono ?_
  rintro r w2 ⟨rfl, rfl⟩
  go_wp2
  go_ret2
  exact ⟨rfl, rfl⟩
set_option maxRecDepth 100000 in
set_option maxHeartbeats 8000000 in
theorem law_NoiseNone (w : World) (v1 : Value) (A : List Int) (v2 : Value) (B : List Int) (c : Int) (zero : Bool) (h1 : IntsIn .i64 w v1 A) (h2 : IntsIn .u8 w v2 B) (wc : (Lit.int .i64 c).wf = true) :
    Calls Try.prog 9 #[v1, v2, .int .i64 c, .bool zero] w fun e w' => e = .returned (.bool true) ∧ Below w.heap.size w w' := by
  obtain ⟨hv1, hl1, -⟩ := h1
  obtain ⟨hv2, hl2, -⟩ := h2
  have HV1 := hid hv1
  have HV2 := hid hv2
  obtain ⟨a1, k1, rfl, _⟩ := hv1
  obtain ⟨a2, k2, rfl, _⟩ := hv2
  rw [List.length_map] at HV1 HV2 ⊢
  rw [List.length_map]
  have hnil : ∀ w (p q : Value), (binOp .eql 45 (.func (.func 38) #[] #[p, q]) .nilFunc).run Try.prog w = .ok (.bool false) w := fun _ _ _ => by kernel_rfl
  have cs : decide (100 < (A.length : Int)) = true ∨ (decide (100 < (A.length : Int)) = false ∧ decide (100 < (B.length : Int)) = true) ∨ (decide (100 < (A.length : Int)) = false ∧ decide (100 < (B.length : Int)) = false) := by
    by_cases h : 100 < A.length
    · left; simp; omega
    · by_cases h' : 100 < B.length
      · right; left; simp; omega
      · right; right; simp; omega
  rcases cs with t1 | ⟨t1, t2⟩ | ⟨t1, t2⟩
  · clear hl1 hl2
    refine calls_of_wp_marks Try.func9 rfl ?_
    simp only [Try.ntmps9, List.size_toArray, List.length_cons, List.length_nil, Nat.reduceAdd, Nat.reduceSub, Array.replicate_succ, Array.replicate_zero, List.push_toArray, List.append_toArray, List.nil_append, List.cons_append]
    go_wp2_with fail
    refine (works18 _).mono ?_
    rintro r w1 ⟨rfl, B1⟩
    have HR := hid (show Blk w1 w.heap.size 4 #[.bool false] from Blk.below (Blk.new w _ _) B1 (by simp))
    have c0 : w1.cell? ⟨w.heap.size, 0, none⟩ = some (.bool false) := HR.out.cell 0
    have f0 : w1.frozen? ⟨w.heap.size, 0, none⟩ = false := HR.out.frozen 0
    have HB := hid (up_alloc B1)
    clear B1
    go_wp2
    have F : Fr (fun k => k = w.heap.size) w1 (w1.setCell ⟨w.heap.size, 0, none⟩ (.bool true)) := Fr.setCell (S := fun k => k = w.heap.size) _ ⟨w.heap.size, 0, none⟩ _ rfl
    have kE := (HR.out.set_ 0 (.bool true)).cell 0
    simp only [List.setIfInBounds_toArray, List.set_cons_zero, List.getElem?_toArray, List.getElem?_cons_zero] at kE
    exact bodyPostM_ret0 rfl (v := .bool true) (by simp [results, Try.results9, go_sem, kE]) ⟨rfl, HB.out.trans (F.below HB.out.size (fun j hj e => by omega))⟩
  · clear hl1 hl2
    refine calls_of_wp_marks Try.func9 rfl ?_
    simp only [Try.ntmps9, List.size_toArray, List.length_cons, List.length_nil, Nat.reduceAdd, Nat.reduceSub, Array.replicate_succ, Array.replicate_zero, List.push_toArray, List.append_toArray, List.nil_append, List.cons_append]
    go_wp2_with fail
    refine (works18 _).mono ?_
    rintro r w1 ⟨rfl, B1⟩
    have HR := hid (show Blk w1 w.heap.size 4 #[.bool false] from Blk.below (Blk.new w _ _) B1 (by simp))
    have c0 : w1.cell? ⟨w.heap.size, 0, none⟩ = some (.bool false) := HR.out.cell 0
    have f0 : w1.frozen? ⟨w.heap.size, 0, none⟩ = false := HR.out.frozen 0
    have HB := hid (up_alloc B1)
    clear B1
    go_wp2
    have F : Fr (fun k => k = w.heap.size) w1 (w1.setCell ⟨w.heap.size, 0, none⟩ (.bool true)) := Fr.setCell (S := fun k => k = w.heap.size) _ ⟨w.heap.size, 0, none⟩ _ rfl
    have kE := (HR.out.set_ 0 (.bool true)).cell 0
    simp only [List.setIfInBounds_toArray, List.set_cons_zero, List.getElem?_toArray, List.getElem?_cons_zero] at kE
    exact bodyPostM_ret0 rfl (v := .bool true) (by simp [results, Try.results9, go_sem, kE]) ⟨rfl, HB.out.trans (F.below HB.out.size (fun j hj e => by omega))⟩
  have hA : A.length ≤ 100 := by simp at t1; omega
  have hB : B.length ≤ 100 := by simp at t2; omega
  clear hl1 hl2 wc
  refine calls_of_wp_marks Try.func9 rfl ?_
  simp only [Try.ntmps9, List.size_toArray, List.length_cons, List.length_nil, Nat.reduceAdd, Nat.reduceSub, Array.replicate_succ, Array.replicate_zero, List.push_toArray, List.append_toArray, List.nil_append, List.cons_append]
  cases zero
  all_goals
    go_wp2_with fail
    generalize hW : World.alloc _ _ = wN
    first
      | have HAb := hid (show ∀ W, Below wN.heap.size wN W → Calls Try.prog 36 #[.pointer (some ⟨w.heap.size + 1, 0, none⟩)] W fun r w' => r = .returned (.bool true) ∧ W = w' from fun W hW' => absent_zero W (w.heap.size + 1) 0 0 0 (Blk.below (by rw [← hW]; have := Blk.new (w.alloc (.cells #[.bool false] 4)) 72 #[.int .u64 0, .int .i64 0, .int .i64 0, .int .i64 0]; rw [World.size_alloc] at this; exact this) hW' (by rw [← hW]; simp)))
        have HRes := hid (show Blk wN w.heap.size 4 #[.bool false] by rw [← hW]; exact (Blk.new w _ _).fr (Fr.alloc (fun _ => False) _ _) (fun h => h))
        have HB := hid (show Below w.heap.size w wN by rw [← hW]; exact (below_alloc _ _).alloc (by simp) _)
      | have HAb := hid (show ∀ W, Below wN.heap.size wN W → Calls Try.prog 36 #[.pointer none] W fun r w' => r = .returned (.bool true) ∧ W = w' from fun W hW' => absent_nil W)
        have HRes := hid (show Blk wN w.heap.size 4 #[.bool false] by rw [← hW]; exact Blk.new w _ _)
        have HB := hid (show Below w.heap.size w wN by rw [← hW]; exact below_alloc _ _)
    clear hW
    refine (soft_none wN _ _ A (HV1.out.below HB.out (Nat.le_refl _)) (by omega) HAb.out).mono ?_
    rintro r wa ⟨rfl, Ba⟩
    go_wp2_with fail
    refine (points_none wa _ (HAb.out _ Ba)).mono ?_
    rintro r w2 ⟨rfl, rfl⟩
    go_wp2_with fail
    refine (bits_none wa _ _ B (HV2.out.below (below_then HB.out Ba) (Nat.le_refl _)) (by omega) (HAb.out _ Ba)).mono ?_
    rintro r w2 ⟨rfl, rfl⟩
    go_wp2_with fail
    refine (lost_nil wa _ (HAb.out _ Ba)).mono ?_
    rintro r w2 ⟨rfl, rfl⟩
    go_wp2_with fail
    refine (outputs_none wa _ (fun w1 h => HAb.out _ (below_then Ba h)) c).mono ?_
    rintro r wb ⟨rfl, hwb⟩
    have e1 : wb.heap.size = wa.heap.size + 2 := by rw [hwb]; simp
    have F : Fr (fun _ => False) wa wb := by rw [hwb]; exact (Fr.alloc _ _ _).trans (Fr.alloc _ _ _)
    have HO1 := hid (show Blk wb (wa.heap.size + 1) 70 #[.int .u64 0] by rw [hwb]; have := (Blk.new (wa.alloc (.cells #[.int .i64 c] 3)) 70 #[.int .u64 0]); rw [World.size_alloc] at this; exact this)
    have HO2 := hid (show Blk wb wa.heap.size 3 #[.int .i64 c] by rw [hwb]; exact (Blk.new wa 3 #[.int .i64 c]).fr (Fr.alloc (fun _ => False) _ _) (fun h => h))
    have HIT := hid (outputs1_zero c (wa.heap.size + 1) wa.heap.size (fun j => j = wa.heap.size ∨ j = wa.heap.size + 1) (.inr rfl) (.inl rfl) wb (HO1.out.cell 0) (HO2.out.cell 0) (fun j hj => by omega) (fun _ => #[.int .i64 0, .int .u64 0]))
    have HBab := hid (Ba.trans (F.below Ba.size (fun _ _ h => h)))
    have hse := hid e1
    clear hwb e1 F HO1 HO2 Ba
    go_wp2_with fail
    refine (wpIn_wide (n := 1)).1 ?_
    refine wpIn_range (gf := 38) (lb := #[.pointer (some ⟨wa.heap.size + 1, 0, none⟩), .pointer (some ⟨wa.heap.size, 0, none⟩)]) rfl (enters_of Try.func38 (by kernel_rfl) rfl) HIT.out (Below.refl _ _) (fun _ => rfl)
      (fun k V => Below wb.heap.size wb V) (fun _ _ _ => False)
      (fun k A V h hf => h.trans (hf.below h.size (fun j hj h' => by omega))) (fun k c A V h hf => h)
      (Below.refl _ _) (fun h => by cases h) ?_ ?_ ?_ ?_ (fun _ _ _ _ h => h.elim)
    rotate_left
    · intro l k V K hK
      gi_wp2
      exact hK
    · rintro l k V hk - -
      exact absurd (hk 0 rfl) (Nat.not_lt_zero _)
    · rintro D n V - hV hD hDl
      have HV := hid (below_then HBab.out hV)
      have HD := hid hD
      have HR := hid (HRes.out.below HV.out HRes.out.lt)
      have HBV := hid (below_then HB.out HV.out)
      have hDw : w.heap.size < D := by have := HRes.out.lt; have := HBab.out.size; omega
      have KS := hid (fun W (h : Below wN.heap.size wN W) => state_nil W _ (HAb.out W h))
      have KC := hid (fun W (h : Below wN.heap.size wN W) => channel_nil W _ (fun w1 h1 => HAb.out w1 (below_then h h1)))
      have KL := hid (fun W (h : Below wN.heap.size wN W) => clone_nil W _ (HAb.out W h))
      clear HIT hV hD HRes HB HBab hse
      go_wp2_with (go_at_call 16; refine (num18_any _ _).mono ?_; rintro r w' ⟨rfl, rfl⟩)
      refine (KS.out _ HV.out).mono ?_
      rintro r w' ⟨rfl, rfl⟩
      go_wp2_with fail
      refine (KC.out _ HV.out).mono ?_
      rintro r w3 ⟨rfl, B3⟩
      go_wp2_with fail
      refine (KL.out _ (below_then HV.out B3)).mono ?_
      rintro r w' ⟨rfl, rfl⟩
      go_wp2_with fail
      refine (works18 _).mono ?_
      rintro r w4 ⟨rfl, B4⟩
      have HR4 := hid ((HR.out.below B3 HR.out.lt).below B4 (HR.out.below B3 HR.out.lt).lt)
      have c0 : w4.cell? ⟨w.heap.size, 0, none⟩ = some (.bool false) := HR4.out.cell 0
      have f0 : w4.frozen? ⟨w.heap.size, 0, none⟩ = false := HR4.out.frozen 0
      have hd3 := (B3.block D (Array.getElem?_eq_some_iff.1 HD.out).1).trans HD.out
      have hd4 := (B4.block D (Array.getElem?_eq_some_iff.1 hd3).1).trans hd3
      have HB4 := hid (below_then (below_then HBV.out B3) B4)
      have F : Fr (fun k => k = w.heap.size) w4 (w4.setCell ⟨w.heap.size, 0, none⟩ (.bool true)) := Fr.setCell (S := fun k => k = w.heap.size) _ ⟨w.heap.size, 0, none⟩ _ rfl
      have HDE := hid ((F.block D (Array.getElem?_eq_some_iff.1 hd4).1 (by omega)).trans hd4)
      have HRE := hid (HR4.out.set_ 0 (.bool true))
      have HBE := hid (HB4.out.trans (F.below HB4.out.size (fun j hj e => by omega)))
      clear hd3 hd4 F B3 B4 KS KC KL
      go_wp2
      generalize World.setCell _ _ _ = wE at *
      have F1 : Fr (fun j => j = D) wE (wE.putObj D (.deferred none)) := Fr.putObj wE D _ rfl
      have kE := (HRE.out.fr F1 (by omega)).cell 0
      simp only [List.setIfInBounds_toArray, List.set_cons_zero, List.getElem?_toArray, List.getElem?_cons_zero] at kE
      clear c0 f0
      exact bodyPostM_ret1 HDE.out rfl (v := .bool true) (by simp [results, Try.results9, go_sem, kE]) ⟨rfl, HBE.out.trans (F1.below HBE.out.size (fun j hj e => by omega))⟩
end Go.Proofs.Ytngggknejkcepaa

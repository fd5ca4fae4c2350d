/- userplanelaw11.works: the examples of the chapter hold. -/
import Derived.Test.YtmbjcpppbgapbaaSoftG
namespace Go.Proofs.Ytmbjcpppbgapbaa
open Go.RowKit Go.Shelf
set_option linter.unusedVariables false
theorem up_alloc {w w' : World} {o : Obj} (h : Below (w.alloc o).heap.size (w.alloc o) w') : Below w.heap.size w w' := below_then (below_alloc w o) h
theorem sum_of (A B L : List Int) (x : Int) (hR : Soft.sumR A B = (L, x)) (hA : A.length ≤ 1000) (hB : B.length ≤ 1000) (w : World) (va vb : Value) (ha : Vw w va (A.map (Value.int .i64))) (hb : Vw w vb (B.map (Value.int .i64))) :
    Calls Try.prog 15 #[va, vb] w fun e w' => (∃ v', e = .returned (.tuple #[v', .int .i64 x]) ∧ Vw w' v' (L.map (Value.int .i64))) ∧ Below w.heap.size w w' := by
  have := sum_any w va vb A B ha hb (by omega) (by omega)
  rwa [hR] at this
theorem scale_of (A L : List Int) (p q x : Int) (hR : Soft.sclR A p q = (L, x)) (hA : A.length ≤ 1000) (w : World) (va : Value) (ha : Vw w va (A.map (Value.int .i64))) :
    Calls Try.prog 21 #[va, .int .i64 p, .int .i64 q] w fun e w' => (∃ v', e = .returned (.tuple #[v', .int .i64 x]) ∧ Vw w' v' (L.map (Value.int .i64))) ∧ Below w.heap.size w w' := by
  have := scale_any w va A p q ha (by omega)
  rwa [hR] at this
theorem hard_of (A L : List Int) (x : Int) (hR : Soft.hardR A = (L, x)) (hA : A.length ≤ 1000) (w : World) (va : Value) (ha : Vw w va (A.map (Value.int .i64))) :
    Calls Try.prog 23 #[va] w fun e w' => (∃ v', e = .returned (.tuple #[v', .int .i64 x]) ∧ Vw w' v' (L.map (Value.int .u8))) ∧ Below w.heap.size w w' := by
  have := hard_any w va A ha (by omega)
  rwa [hR] at this
theorem ideal_of (A L : List Int) (m x : Int) (hR : Soft.idlR A m = (L, x)) (hA : A.length ≤ 1000) (hwf : ∀ n ∈ A, (Lit.int .u8 n).wf = true) (w : World) (va : Value) (ha : Vw w va (A.map (Value.int .u8))) :
    Calls Try.prog 25 #[va, .int .i64 m] w fun e w' => (∃ v', e = .returned (.tuple #[v', .int .i64 x]) ∧ Vw w' v' (L.map (Value.int .i64))) ∧ Below w.heap.size w w' := by
  have := ideal_any w va A m ha (by omega) hwf
  rwa [hR] at this
theorem compare_of (A B : List Int) (p q : Nat) (x : Int) (hR : Soft.cmpR A B = (p, q, x)) (hA : A.length ≤ 1000) (hB : B.length ≤ 1000) (hwf : ∀ n ∈ B, (Lit.int .u8 n).wf = true) (w : World) (va vb : Value) (ha : Vw w va (A.map (Value.int .i64))) (hb : Vw w vb (B.map (Value.int .u8))) :
    Calls Try.prog 27 #[va, vb] w fun e w' => e = .returned (.tuple #[.int .i64 p, .int .i64 q, .int .i64 x]) ∧ Below w.heap.size w w' := by
  have := compare_any w va vb A B ha hb (by omega) (by omega) hwf
  rwa [hR] at this
theorem least_of (A : List Int) (p : Nat) (x : Int) (hR : Soft.leastR A = (p, x)) (hA : A.length ≤ 1000) (w : World) (va : Value) (ha : Vw w va (A.map (Value.int .i64))) :
    Calls Try.prog 29 #[va] w fun e w' => e = .returned (.tuple #[.int .i64 p, .int .i64 x]) ∧ Below w.heap.size w w' := by
  have := least_any w va A ha (by omega)
  rwa [hR] at this
theorem valid_of (A : List Int) (b : Bool) (hR : Soft.bad A = !b) (hA : A.length ≤ 1000) (w : World) (va : Value) (ha : Vw w va (A.map (Value.int .i64))) :
    Calls Try.prog 19 #[va] w fun e w' => e = .returned (.bool b) ∧ Below w.heap.size w w' := by
  have := valid_any w va A ha (by omega)
  rwa [hR, Bool.not_not] at this
theorem clamp_of (v x : Int) (hR : Soft.clamp v = x) (w : World) : Calls Try.prog 10 #[.int .i64 v] w fun e w' => e = .returned (.int .i64 x) ∧ Below w.heap.size w w' := by
  have := clamp_any v w
  rwa [hR] at this
theorem add_of (a b x : Int) (hR : Soft.add a b = x) (w : World) : Calls Try.prog 12 #[.int .i64 a, .int .i64 b] w fun e w' => e = .returned (.int .i64 x) ∧ Below w.heap.size w w' := by
  have := add_any a b w
  rwa [hR] at this
theorem vlit (w : World) (xs : List Int) (k : IntKind) (e : TypeId) (n : Nat) (cs : Array Value) (hc : cs = (xs.map (Value.int k)).toArray) (hn : xs.length = n) : Vw (w.alloc (.cells cs e)) (.slice (some ⟨w.heap.size, 0, none⟩) n n) (xs.map (Value.int k)) := by
  subst hc
  have := Vw.lit w (xs.map (Value.int k)).toArray e n (by simpa using hn)
  simpa using this
set_option maxHeartbeats 4000000 in
theorem works11 (w : World) : Calls Try.prog 14 #[] w fun e w' => e = .returned (.bool true) ∧ Below w.heap.size w w' := by
  have c1 := hid (clamp_of 200 127 (by decide))
  have c2 := hid (clamp_of (-128) (-127) (by decide))
  have c3 := hid (add_of 100 100 127 (by decide))
  have c4 := hid (add_of (-500) 127 0 (by decide))
  have c5 := hid (valid_of [127, -127] true (by decide) (by decide))
  have c6 := hid (valid_of [128] false (by decide) (by decide))
  have c7 := hid (sum_of [1, -100] [2, -100] [3, -127] 0 (by decide) (by decide) (by decide))
  have c8 := hid (scale_of [7, -7, 127] [5, -5, 95] 3 4 0 (by decide) (by decide))
  have c9 := hid (scale_of [100] [127] 2 1 0 (by decide) (by decide))
  have c10 := hid (sum_of [1] [] [] 2 (by decide) (by decide) (by decide))
  have c11 := hid (hard_of [5, -1, 0] [0, 1, 0] 0 (by decide) (by decide))
  have c12 := hid (ideal_of [0, 1] [9, -9] 9 0 (by decide) (by decide) (by decide))
  have c13 := hid (ideal_of [2] [] 9 3 (by decide) (by decide) (by decide))
  have c14 := hid (compare_of [5, -1, 0, 3] [0, 0, 1, 1] 2 1 0 (by decide) (by decide) (by decide) (by decide))
  have c15 := hid (least_of [5, -2, 2] 1 0 (by decide) (by decide))
  go_enter Try.func14, Try.ntmps14
  go_wp2_with fail
  refine (c1.out _).mono ?_
  rintro e w1 ⟨rfl, B1⟩
  go_wp2_with fail
  refine (c2.out _).mono ?_
  rintro e w2 ⟨rfl, B2⟩
  go_wp2_with fail
  refine (c3.out _).mono ?_
  rintro e w3 ⟨rfl, B3⟩
  go_wp2_with fail
  refine (c4.out _).mono ?_
  rintro e w4 ⟨rfl, B4⟩
  have B := below_then (below_then (below_then B1 B2) B3) B4
  clear B1 B2 B3 B4
  go_wp2_with fail
  refine (c5.out _ _ (vlit _ _ _ _ _ _ rfl rfl)).mono ?_
  rintro e w5 ⟨rfl, B5⟩
  go_wp2_with fail
  refine (c6.out _ _ (vlit _ _ _ _ _ _ rfl rfl)).mono ?_
  rintro e w6 ⟨rfl, B6⟩
  replace B := below_then (below_then B (up_alloc B5)) (up_alloc B6)
  clear B5 B6
  go_wp2_with fail
  refine (c7.out _ _ _ ((vlit _ _ _ _ _ _ rfl rfl).below (below_alloc _ _) (Nat.le_refl _)) (by have := vlit (w6.alloc (.cells #[.int .i64 1, .int .i64 (-100)] 3)) [2, -100] .i64 3 2 _ rfl rfl; rwa [World.size_alloc] at this)).mono ?_
  rintro e w7 ⟨⟨v7, rfl, V7⟩, B7⟩
  replace B := below_then B (up_alloc (up_alloc B7))
  clear B7
  go_wp2_with fail
  refine (c8.out _ _ (vlit _ _ _ _ _ _ rfl rfl)).mono ?_
  rintro e w8 ⟨⟨v8, rfl, V8⟩, B8⟩
  replace B8 := up_alloc B8
  replace V7 := V7.below B8 (Nat.le_refl _)
  replace B := below_then B B8
  clear B8
  go_wp2_with fail
  refine (c9.out _ _ (vlit _ _ _ _ _ _ rfl rfl)).mono ?_
  rintro e w9 ⟨⟨v9, rfl, V9⟩, B9⟩
  replace B9 := up_alloc B9
  replace V7 := V7.below B9 (Nat.le_refl _)
  replace V8 := V8.below B9 (Nat.le_refl _)
  replace B := below_then B B9
  clear B9
  go_wp2_with fail
  refine (c10.out _ _ _ (vlit _ _ _ _ _ _ rfl rfl) (Vw.nil _ _ _)).mono ?_
  rintro e w10 ⟨⟨v10, rfl, V10⟩, B10⟩
  replace B10 := up_alloc B10
  replace V7 := V7.below B10 (Nat.le_refl _)
  replace V8 := V8.below B10 (Nat.le_refl _)
  replace V9 := V9.below B10 (Nat.le_refl _)
  replace B := below_then B B10
  clear B10
  go_wp2_with fail
  refine (is_true _ _ _ [3, -127] _ (V7.below (below_alloc _ _) (Nat.le_refl _)) (vlit _ _ _ _ _ _ rfl rfl) (by decide)).mono ?_
  rintro e w11 ⟨rfl, B11⟩
  replace B11 := up_alloc B11
  replace V8 := V8.below B11 (Nat.le_refl _)
  replace V9 := V9.below B11 (Nat.le_refl _)
  replace V10 := V10.below B11 (Nat.le_refl _)
  replace B := below_then B B11
  clear B11 V7
  go_wp2_with fail
  refine (is_true _ _ _ [5, -5, 95] _ (V8.below (below_alloc _ _) (Nat.le_refl _)) (vlit _ _ _ _ _ _ rfl rfl) (by decide)).mono ?_
  rintro e w12 ⟨rfl, B12⟩
  replace B12 := up_alloc B12
  replace V9 := V9.below B12 (Nat.le_refl _)
  replace V10 := V10.below B12 (Nat.le_refl _)
  replace B := below_then B B12
  clear B12 V8
  go_wp2_with fail
  refine (is_true _ _ _ [127] _ (V9.below (below_alloc _ _) (Nat.le_refl _)) (vlit _ _ _ _ _ _ rfl rfl) (by decide)).mono ?_
  rintro e w13 ⟨rfl, B13⟩
  replace B13 := up_alloc B13
  replace V10 := V10.below B13 (Nat.le_refl _)
  replace B := below_then B B13
  clear B13 V9
  go_wp2_with fail
  refine (is_true _ _ _ [] _ V10 (Vw.nil _ _ _) (by decide)).mono ?_
  rintro e w14 ⟨rfl, B14⟩
  replace B := below_then B B14
  clear B14 V10
  go_wp2_with fail
  refine (c11.out _ _ (vlit _ _ _ _ _ _ rfl rfl)).mono ?_
  rintro e w15 ⟨⟨v15, rfl, V15⟩, B15⟩
  replace B := below_then B (up_alloc B15)
  clear B15
  go_wp2_with fail
  refine (c12.out _ _ (vlit _ _ _ _ _ _ rfl rfl)).mono ?_
  rintro e w16 ⟨⟨v16, rfl, V16⟩, B16⟩
  replace B16 := up_alloc B16
  replace V15 := V15.below B16 (Nat.le_refl _)
  replace B := below_then B B16
  clear B16
  go_wp2_with fail
  refine (c13.out _ _ (vlit _ _ _ _ _ _ rfl rfl)).mono ?_
  rintro e w17 ⟨⟨v17, rfl, V17⟩, B17⟩
  replace B17 := up_alloc B17
  replace V15 := V15.below B17 (Nat.le_refl _)
  replace V16 := V16.below B17 (Nat.le_refl _)
  replace B := below_then B B17
  clear B17
  go_wp2_with fail
  refine (c14.out _ _ _ ((vlit _ _ _ _ _ _ rfl rfl).below (below_alloc _ _) (Nat.le_refl _)) (by have := vlit (w17.alloc (.cells #[.int .i64 5, .int .i64 (-1), .int .i64 0, .int .i64 3] 3)) [0, 0, 1, 1] .u8 5 4 _ rfl rfl; rwa [World.size_alloc] at this)).mono ?_
  rintro e w18 ⟨rfl, B18⟩
  replace B18 := up_alloc (up_alloc B18)
  replace V15 := V15.below B18 (Nat.le_refl _)
  replace V16 := V16.below B18 (Nat.le_refl _)
  replace V17 := V17.below B18 (Nat.le_refl _)
  replace B := below_then B B18
  clear B18
  go_wp2_with fail
  refine (c15.out _ _ (vlit _ _ _ _ _ _ rfl rfl)).mono ?_
  rintro e w19 ⟨rfl, B19⟩
  replace B19 := up_alloc B19
  replace V15 := V15.below B19 (Nat.le_refl _)
  replace V16 := V16.below B19 (Nat.le_refl _)
  replace V17 := V17.below B19 (Nat.le_refl _)
  replace B := below_then B B19
  clear B19
  have hs : strOfNums [0, 1, 0] = ⟨#[0, 1, 0]⟩ := rfl
  have hcv := run_bstr (P := Try.prog) w19 38 9 5 Try.underlying38 Try.underlying5 Try.underlying9 v15 [0, 1, 0] V15
  rw [hs] at hcv
  clear hs V15
  go_wp2_with fail
  refine (is_true _ _ _ [9, -9] _ (V16.below (below_alloc _ _) (Nat.le_refl _)) (vlit _ _ _ _ _ _ rfl rfl) (by decide)).mono ?_
  rintro e w20 ⟨rfl, B20⟩
  replace B20 := up_alloc B20
  replace V17 := V17.below B20 (Nat.le_refl _)
  replace B := below_then B B20
  clear B20 V16
  go_wp2_with fail
  refine (is_true _ _ _ [] _ V17 (Vw.nil _ _ _) (by decide)).mono ?_
  rintro e w21 ⟨rfl, B21⟩
  replace B := below_then B B21
  clear B21 V17
  go_wp2_with (go_at_call 18; refine (num_any _ _).mono ?_; rintro r w2 ⟨rfl, rfl⟩)
  go_ret
  exact ⟨rfl, B⟩
end Go.Proofs.Ytmbjcpppbgapbaa

/- soft: Sum, Scale, Hard, Ideal. -/
import Derived.Test.YtmbjcpppbgapbaaClamp
import Derived.Test.YtmbjcpppbgapbaaMapI
import Derived.Test.YtmbjcpppbgapbaaMapB
import Derived.Test.YtmbjcpppbgapbaaContB
import Derived.Test.YtmbjcpppbgapbaaVw2
import Derived.StillTailTactics
import Derived.RegionTactic
import Derived.Deep.QuietTactic
import Derived.BigQuiet
import Derived.IntWalk
namespace Go.Proofs.Ytmbjcpppbgapbaa
open Go.RowKit Go.Shelf
set_option linter.unusedVariables false
theorem arg_any (b : Bool) (w : World) : Calls Try.prog 34 #[.bool b] w fun e w' => e = .returned (.int .i64 (if b = true then 0 else 2)) ∧ w = w' := by
  cases b with
  | true =>
    go_enter Try.func34, Try.ntmps34
    go_wp2
    go_ret
    exact ⟨rfl, rfl⟩
  | false =>
    go_enter Try.func34, Try.ntmps34
    go_wp2
    go_ret
    exact ⟨rfl, rfl⟩
theorem binv_any (x : Int) (w : World) : Calls Try.prog 52 #[.int .u8 x] w fun e w' => e = .returned (.bool (Soft.binv x)) ∧ w' = w := by
  unfold Soft.binv
  by_cases h : 1 < x
  · go_enter Try.func52, Try.ntmps52
    go_wp2
    go_ret
    exact ⟨by simp [h], rfl⟩
  · go_enter Try.func52, Try.ntmps52
    go_wp2
    go_ret
    exact ⟨by simp; omega, rfl⟩
theorem binary_any (w : World) (v : Value) (B : List Int) (hv : Vw w v (B.map (Value.int .u8))) (hl : B.length ≤ 9223372036854775807) :
    Calls Try.prog 43 #[v] w fun e w' => e = .returned (.int .i64 (if Soft.bbad B = true then 3 else 0)) ∧ w = w' := by
  have H := bcontains_any w v (B.map (Value.int .u8)) hv (by simpa using hl) 52 #[] (enters_of Try.func52 (by kernel_rfl) rfl) (fun i => Soft.binv (B.getD i 0))
    (fun i hi => by
      have hi' : i < B.length := by simpa using hi
      have e : (B.map (Value.int .u8))[i] = Value.int .u8 (B.getD i 0) := by simp [List.getD, hi']
      rw [e]
      exact binv_any _ _)
  rw [List.length_map, Soft.bbad_eq] at H
  have HH := hid H
  clear H hv
  cases hb : Soft.bbad B with
  | true =>
    rw [hb] at HH
    clear hb
    go_enter Try.func43, Try.ntmps43
    go_wp2_with (go_at_call 51; refine HH.out.mono ?_; rintro e w1 ⟨rfl, rfl⟩)
    go_ret
    exact ⟨rfl, rfl⟩
  | false =>
    rw [hb] at HH
    clear hb
    go_enter Try.func43, Try.ntmps43
    go_wp2_with (go_at_call 51; refine HH.out.mono ?_; rintro e w1 ⟨rfl, rfl⟩)
    go_ret
    exact ⟨rfl, rfl⟩
theorem sign_any (v : Int) (w : World) : Calls Try.prog 41 #[.int .i64 v] w fun e w' => e = .returned (.int .u8 (Soft.sgn v)) ∧ w = w' := by
  unfold Soft.sgn
  by_cases h : v < 0
  · rw [if_pos h]
    go_enter Try.func41, Try.ntmps41
    go_wp2
    go_ret
    exact ⟨rfl, rfl⟩
  · rw [if_neg h]
    go_enter Try.func41, Try.ntmps41
    go_wp2
    go_ret
    exact ⟨rfl, rfl⟩
/-- The first of two error numbers that is not 0. -/
theorem first2_any (w : World) (a b : Int) :
    Calls Try.prog 42 #[.slice (some ⟨w.heap.size, 0, none⟩) 2 2] (w.alloc (.cells #[.int .i64 a, .int .i64 b] 27)) fun e w' => e = .returned (.int .i64 (if a ≠ 0 then a else b)) ∧ w' = w.alloc (.cells #[.int .i64 a, .int .i64 b] 27) := by
  by_cases ha : a = 0
  · subst ha
    rw [if_neg (by simp)]
    by_cases hb : b = 0
    · subst hb
      go_enter Try.func42, Try.ntmps42
      go_wp2
      refine wp_loop_rounds 3 ?_
      rw [rounds_succ]
      go_wp2
      rw [rounds_succ]
      go_wp2
      rw [rounds_succ]
      go_wp2
      go_ret
      exact ⟨rfl, rfl⟩
    · have h1 : (b != 0) = true := by simp [hb]
      clear hb
      go_enter Try.func42, Try.ntmps42
      go_wp2
      refine wp_loop_rounds 2 ?_
      rw [rounds_succ]
      go_wp2
      rw [rounds_succ]
      go_wp2
      go_ret
      exact ⟨rfl, rfl⟩
  · rw [if_pos ha]
    have h1 : (a != 0) = true := by simp [ha]
    clear ha
    go_enter Try.func42, Try.ntmps42
    go_wp2
    refine wp_loop_rounds 1 ?_
    rw [rounds_succ]
    go_wp2
    go_ret
    exact ⟨rfl, rfl⟩

/-- An element of a slice that stands in a variable. -/
theorem vw_at {w : World} {v : Value} {A : List Int} {k : IntKind} (h : Vw w v (A.map (Value.int k))) {j : Nat} (hj : j < A.length) : ∃ b off c, v = .slice (some ⟨b, off, none⟩) A.length c ∧ w.cell? ⟨b, off + j, none⟩ = some (.int k (A.getD j 0)) := by
  rcases vw_split h with ⟨a, c, rfl, rfl⟩ | ⟨b, off, c, rfl, hp, hc⟩
  · simp at hj
  · exact ⟨b, off, c, rfl, hc j hj⟩

theorem sum1_any (A B : List Int) (hl : A.length = B.length) (j : Nat) (hj : j < A.length) (hm : A.length ≤ 9223372036854775807) (va vb : Value) (pa pb : Nat) (W : World) (ha : W.cell? ⟨pa, 0, none⟩ = some va) (hb : W.cell? ⟨pb, 0, none⟩ = some vb)
    (hva : Vw W va (A.map (Value.int .i64))) (hvb : Vw W vb (B.map (Value.int .i64))) :
    Calls Try.prog 36 #[.int .i64 j, .pointer (some ⟨pa, 0, none⟩), .pointer (some ⟨pb, 0, none⟩)] W fun e w' => e = .returned (.int .i64 (Soft.sumG A B j)) ∧ Below W.heap.size W w' := by
  obtain ⟨b1, o1, c1, rfl, hc1⟩ := vw_at hva hj
  obtain ⟨b2, o2, c2, rfl, hc2⟩ := vw_at hvb (by omega : j < B.length)
  have hj2 : j < B.length := by omega
  have hm2 : B.length ≤ 9223372036854775807 := by omega
  have C := hid (fun w => add_any (A.getD j 0) (B.getD j 0) w)
  have HG := hid (show Soft.sumG A B j = Soft.add (A.getD j 0) (B.getD j 0) from rfl)
  generalize A.getD j 0 = x at *
  generalize B.getD j 0 = y at *
  clear hva hvb hl
  go_enter Try.func36, Try.ntmps36
  go_wp2
  go_still_tail 8, (by kernel_rfl)
  change wpList _ _ _ _ _ W.drew
  go_wp2_with (go_at_call 12; refine (C.out _).mono ?_; rintro e w1 ⟨rfl, hB⟩)
  go_ret
  exact ⟨ret_int HG.out.symm, ((Fr.drew (fun _ => False) W).below (Nat.le_refl _) (fun _ _ h => h)).trans hB⟩
theorem hard1_any (A : List Int) (j : Nat) (hj : j < A.length) (hm : A.length ≤ 9223372036854775807) (va : Value) (pa : Nat) (W : World) (ha : W.cell? ⟨pa, 0, none⟩ = some va)
    (hva : Vw W va (A.map (Value.int .i64))) :
    Calls Try.prog 40 #[.int .i64 j, .pointer (some ⟨pa, 0, none⟩)] W fun e w' => e = .returned (.int .u8 (Soft.hardG A j)) ∧ Below W.heap.size W w' := by
  obtain ⟨b1, o1, c1, rfl, hc1⟩ := vw_at hva hj
  have C := hid (fun w => sign_any (A.getD j 0) w)
  have HG := hid (show Soft.hardG A j = Soft.sgn (A.getD j 0) from rfl)
  generalize A.getD j 0 = x at *
  clear hva
  go_enter Try.func40, Try.ntmps40
  go_wp2_with (go_at_call 41; refine (C.out _).mono ?_; rintro e w1 ⟨rfl, rfl⟩)
  go_ret
  exact ⟨ret_int HG.out.symm, Below.refl _ _⟩

theorem mul_bd {x p : Int} (h1 : -127 ≤ x) (h2 : x ≤ 127) (h3 : 0 ≤ p) (h4 : p ≤ 1073741824) : -136365211648 ≤ x * p ∧ x * p ≤ 136365211648 := by
  constructor
  · have := Int.mul_le_mul_of_nonneg_right h1 h3
    omega
  · have := Int.mul_le_mul_of_nonneg_right h2 h3
    omega
theorem scale1_any (A : List Int) (p q : Int) (hp0 : 0 ≤ p) (hp1 : p ≤ 1073741824) (hq0 : 1 ≤ q) (hq1 : q ≤ 1073741824) (hbad : Soft.bad A = false) (j : Nat) (hj : j < A.length) (hm : A.length ≤ 9223372036854775807) (va : Value) (pa pp pq : Nat) (W : World) (ha : W.cell? ⟨pa, 0, none⟩ = some va)
    (hpc : W.cell? ⟨pp, 0, none⟩ = some (.int .i64 p)) (hqc : W.cell? ⟨pq, 0, none⟩ = some (.int .i64 q)) (hva : Vw W va (A.map (Value.int .i64))) :
    Calls Try.prog 38 #[.int .i64 j, .pointer (some ⟨pa, 0, none⟩), .pointer (some ⟨pp, 0, none⟩), .pointer (some ⟨pq, 0, none⟩)] W fun e w' => e = .returned (.int .i64 (Soft.sclG A p q j)) ∧ Below W.heap.size W w' := by
  obtain ⟨b1, o1, c1, rfl, hc1⟩ := vw_at hva hj
  have hx := Soft.inv_false (Soft.bad_at hbad hj)
  have C := hid (fun w => clamp_any ((A.getD j 0 * p).tdiv q) w)
  have HG := hid (show Soft.sclG A p q j = Soft.clamp ((A.getD j 0 * p).tdiv q) from rfl)
  generalize A.getD j 0 = x at *
  have hb := mul_bd hx.1 hx.2 hp0 hp1
  have hw1 : IntKind.i64.wrap (x * p) = x * p := IntWalk.i64_in _ (by omega)
  have hd := Int.natAbs_tdiv (x * p) q
  have hle : ((x * p).tdiv q).natAbs ≤ (x * p).natAbs := by rw [hd]; exact Nat.div_le_self _ _
  have hw2 : IntKind.i64.wrap ((x * p).tdiv q) = (x * p).tdiv q := IntWalk.i64_in _ (by omega)
  have hq2 : ¬ q = 0 := by omega
  clear hva hbad hd hle
  go_enter Try.func38, Try.ntmps38
  go_wp2
  go_still_tail 8, (by kernel_rfl)
  change wpList _ _ _ _ _ W.drew
  go_wp2_with (go_at_call 10; refine (C.out _).mono ?_; rintro e w1 ⟨rfl, hB⟩)
  go_ret
  exact ⟨ret_int HG.out.symm, ((Fr.drew (fun _ => False) W).below (Nat.le_refl _) (fun _ _ h => h)).trans hB⟩
theorem ideal1_any (A : List Int) (m : Int) (hm0 : 0 ≤ m) (hm1 : m ≤ 127) (hbad : Soft.bbad A = false) (hwf : ∀ n ∈ A, (Lit.int .u8 n).wf = true) (j : Nat) (hj : j < A.length) (hm : A.length ≤ 9223372036854775807) (va : Value) (pa pm : Nat) (W : World) (ha : W.cell? ⟨pa, 0, none⟩ = some va)
    (hpc : W.cell? ⟨pm, 0, none⟩ = some (.int .i64 m)) (hva : Vw W va (A.map (Value.int .u8))) :
    Calls Try.prog 44 #[.int .i64 j, .pointer (some ⟨pm, 0, none⟩), .pointer (some ⟨pa, 0, none⟩)] W fun e w' => e = .returned (.int .i64 (Soft.idlG A m j)) ∧ Below W.heap.size W w' := by
  obtain ⟨b1, o1, c1, rfl, hc1⟩ := vw_at hva hj
  have hx := Soft.bbad_at hbad hj
  have hx0 := hwf (A.getD j 0) (by simp [List.getD, hj])
  have HG := hid (show Soft.idlG A m j = (if A.getD j 0 = 1 then -m else m) from rfl)
  generalize A.getD j 0 = x at *
  simp [Soft.binv] at hx
  simp [Lit.wf, IntKind.min, IntKind.max, IntKind.signed, IntKind.bits] at hx0
  clear hva hbad hwf
  have hx' : x = 0 ∨ x = 1 := by omega
  have hwm : IntKind.i64.wrap (-m) = -m := IntWalk.i64_in _ (by omega)
  have i0 : ∀ w : World, (Instr.index 60 (.agg #[.int .i64 m, .int .i64 (-m)]) (.int .u8 0)).run Try.prog w = .ok (.int .i64 m) w := fun _ => by kernel_rfl
  have i1 : ∀ w : World, (Instr.index 60 (.agg #[.int .i64 m, .int .i64 (-m)]) (.int .u8 1)).run Try.prog w = .ok (.int .i64 (-m)) w := fun _ => by kernel_rfl
  rcases hx' with rfl | rfl
  · go_enter Try.func44, Try.ntmps44
    go_wp2
    go_quiet (fail)
    go_wp2
    go_ret
    exact ⟨ret_int (by rw [HG.out]; simp), (Fr.drewN (fun _ => False) W _).below (Nat.le_refl _) (fun _ _ h => h)⟩
  · go_enter Try.func44, Try.ntmps44
    go_wp2
    go_quiet (fail)
    go_wp2
    go_ret
    exact ⟨ret_int (by rw [HG.out]; simp), (Fr.drewN (fun _ => False) W _).below (Nat.le_refl _) (fun _ _ h => h)⟩
end Go.Proofs.Ytmbjcpppbgapbaa

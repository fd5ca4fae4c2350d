/- userplane/grid: rows, width, size, kind. -/
import Derived.Test.YtighnjbcnfnpmaaGri9
import Derived.Test.YtighnjbcnfnpmaaLib
import Derived.Test.YtighnjbcnfnpmaaProg
import Derived.IntWalk
import Derived.Lib.Hide
import Derived.Shelf.Abstract
import Derived.Deep.QuietTactic
import Derived.Deep.RegionHeld3
import Derived.Deep.DrawnRows
import Derived.BigQuiet
namespace Go.Proofs.Ytighnjbcnfnpmaa
open Go.RowKit Go.Shelf
set_option linter.unusedVariables false
attribute [local go_sem ↓] Go.wp_at_zero Go.wp_at_succ
theorem up_alloc {w w' : World} {o : Obj} (h : Below (w.alloc o).heap.size (w.alloc o) w') : Below w.heap.size w w' := below_then (below_alloc w o) h
theorem bal {w w' : World} (h : Below w.heap.size w w') (o : Obj) : Below w.heap.size w (w'.alloc o) := h.alloc h.size o
/-- Block g is just the cells cs. -/
def Blk (w : World) (g : Nat) (t : TypeId) (cs : Array Value) : Prop := w.heap[g]? = some (.cells cs t (0, 0))
section
variable {w w' : World} {g : Nat} {t : TypeId} {cs : Array Value}
theorem Blk.lt (h : Blk w g t cs) : g < w.heap.size := (Array.getElem?_eq_some_iff.1 h).1
theorem Blk.cell (h : Blk w g t cs) (i : Nat) : w.cell? ⟨g, i, none⟩ = cs[i]? := cell_of_row w g i cs t (0, 0) h
theorem Blk.frozen (h : Blk w g t cs) (i : Nat) : w.frozen? ⟨g, i, none⟩ = false := by
  unfold Blk at h
  simp [World.frozen?, h]
theorem Blk.new (w : World) (t : TypeId) (cs : Array Value) : Blk (w.alloc (.cells cs t)) w.heap.size t cs := heap_alloc_new w _
theorem Blk.set_ (h : Blk w g t cs) (i : Nat) (u : Value) : Blk (w.setCell ⟨g, i, none⟩ u) g t (cs.setIfInBounds i u) := by
  unfold Blk at h ⊢
  simp [World.setCell, Array.getElem?_modify, h]
theorem Blk.fr {S : Nat → Prop} (h : Blk w g t cs) (hf : Fr S w w') (hs : ¬ S g) : Blk w' g t cs := (hf.block g h.lt hs).trans h
theorem Blk.below {B : Nat} (h : Blk w g t cs) (hb : Below B w w') (hg : g < B) : Blk w' g t cs := (hb.block g hg).trans h
end
/-- The value of a configuration (or of a shape). -/
abbrev CV (b t l : Int) : Value := .agg #[.int .i64 b, .int .i64 t, .int .i64 l]
abbrev rowsA : Value := .agg #[.int .i64 0, .int .i64 0, .int .i64 4, .int .i64 3, .int .i64 7, .int .i64 0, .int .i64 11, .int .i64 3]
theorem rows_any (w : World) : Calls Try.prog 46 #[] w fun e w' => e = .returned rowsA ∧ Below w.heap.size w w' := by
  go_enter Try.func46, Try.ntmps46
  go_wp2
  exact bodyPost_ret (v := rowsA) (by simp [results, Try.results46, go_sem]) rfl ⟨rfl, below_alloc _ _⟩
theorem width_any (b t l : Int) (h0 : 0 ≤ b) (h1 : b ≤ 100000) (w : World) : Calls Try.prog 40 #[CV b t l] w fun e w' => e = .returned (.int .i64 (12 * b)) ∧ Below w.heap.size w w' := by
  go_enter Try.func40, Try.ntmps40
  go_wp2
  go_ret
  exact ⟨rfl, below_alloc _ _⟩
theorem size_any (b t l : Int) (h0 : 0 ≤ b) (h1 : b ≤ 100000) (w : World) : Calls Try.prog 34 #[CV b t l] w fun e w' => e = .returned (.int .i64 (168 * b)) ∧ Below w.heap.size w w' := by
  have C := hid (fun w => width_any b t l h0 h1 w)
  go_enter Try.func34, Try.ntmps34
  go_wp2_with fail
  refine (C.out _).mono ?_
  rintro e w1 ⟨rfl, B1⟩
  go_wp2
  go_ret
  exact ⟨ret_int (by omega), up_alloc B1⟩
theorem between_any (n a b : Int) (w : World) : Calls Try.prog 33 #[.int .i64 n, .int .i64 a, .int .i64 b] w fun e w' => e = .returned (.bool (decide (a ≤ n) && decide (n ≤ b))) ∧ w = w' := by
  obtain ⟨q, hq⟩ : ∃ q : Bool, q = (decide (a ≤ n) && decide (n ≤ b)) := ⟨_, rfl⟩
  rw [← hq]
  have HQ := hid hq
  clear hq
  by_cases h : a ≤ n
  · have hd : decide (a ≤ n) = true := decide_eq_true h
    have HH := hid h
    clear h
    go_enter Try.func33, Try.ntmps33
    go_wp2
    go_ret
    exact ⟨ret_bool (by rw [HQ.out, decide_eq_true HH.out, Bool.true_and]), rfl⟩
  · have hd : decide (a ≤ n) = false := decide_eq_false h
    have HH : Hid (n < a) := hid (by omega)
    clear h
    go_enter Try.func33, Try.ntmps33
    go_wp2
    go_ret
    exact ⟨ret_bool (by have := HH.out; rw [HQ.out, decide_eq_false (show ¬ a ≤ n by omega), Bool.false_and]), rfl⟩
set_option maxHeartbeats 4000000 in
theorem kind_any (b t l : Int) (hc : Gr.Cf b t l) (i : Nat) (hi : (i : Int) < 168 * b) (w : World) : Calls Try.prog 35 #[CV b t l, .int .i64 i] w fun e w' => e = .returned (.int .i64 (Gr.kd b t l i)) ∧ Below w.heap.size w w' := by
  obtain ⟨b0, b1, t0, t1, l0, l1⟩ := hc
  have C := hid (fun w => width_any b t l (by omega) (by omega) w)
  have R := hid rows_any
  have i0 : ∀ w, (Instr.index 90 rowsA (.int .i64 0)).run Try.prog w = .ok (.agg #[.int .i64 0, .int .i64 0]) w := fun _ => by kernel_rfl
  have i1 : ∀ w, (Instr.index 90 rowsA (.int .i64 1)).run Try.prog w = .ok (.agg #[.int .i64 4, .int .i64 3]) w := fun _ => by kernel_rfl
  have i2 : ∀ w, (Instr.index 90 rowsA (.int .i64 2)).run Try.prog w = .ok (.agg #[.int .i64 7, .int .i64 0]) w := fun _ => by kernel_rfl
  have i3 : ∀ w, (Instr.index 90 rowsA (.int .i64 3)).run Try.prog w = .ok (.agg #[.int .i64 11, .int .i64 3]) w := fun _ => by kernel_rfl
  have hne : ¬ 12 * b = 0 := by omega
  have hne2 : ((12 * b : Int) == 0) = false := by rw [beq_eq_false_iff_ne]; omega
  have hi0 : (0 : Int) ≤ i := by omega
  have h12 : (0 : Int) ≤ 12 * b := by omega
  have hq0 : 0 ≤ (i : Int) / (12 * b) := Int.ediv_nonneg hi0 h12
  have hq1 : (i : Int) / (12 * b) < 14 := Int.ediv_lt_of_lt_mul (by omega) (by omega)
  have hk0 : 0 ≤ (i : Int) % (12 * b) := Int.emod_nonneg _ (by omega)
  have hk1 : (i : Int) % (12 * b) < 12 * b := Int.emod_lt_of_pos _ (by omega)
  have e1 := hid (show IntKind.i64.wrap ((i : Int) / (12 * b)) = (i : Int) / (12 * b) from IntWalk.i64_in _ (by omega))
  have e2 := hid (show (i : Int).tmod (12 * b) = (i : Int) % (12 * b) from Int.tmod_eq_emod_of_nonneg hi0)
  have HE := hid (show Gr.kd b t l i = if Gr.isr ((i : Int) / (12 * b)) ((i : Int) % (12 * b)) l = true then 1 else if (i : Int) / (12 * b) < t then 2 else 3 from rfl)
  have Hq := hid (And.intro hq0 hq1)
  have Hk := hid (And.intro hk0 hk1)
  clear hq0 hq1 hk0 hk1
  go_enter Try.func35, Try.ntmps35
  go_wp2
  generalize hW : World.alloc _ _ = W
  have HP := hid (show Blk W w.heap.size 73 #[.int .i64 b, .int .i64 t, .int .i64 l] by rw [← hW]; exact Blk.new w _ _)
  have HB := hid (show Below w.heap.size w W by rw [← hW]; exact below_alloc _ _)
  clear hW
  have HS := hid (show ∀ V, Below W.heap.size W V → V.cell? ⟨w.heap.size, 0, none⟩ = some (.int .i64 b) ∧ V.cell? ⟨w.heap.size, 1, none⟩ = some (.int .i64 t) ∧ V.cell? ⟨w.heap.size, 2, none⟩ = some (.int .i64 l) from fun V hV =>
    ⟨(HP.out.below hV HP.out.lt).cell 0, (HP.out.below hV HP.out.lt).cell 1, (HP.out.below hV HP.out.lt).cell 2⟩)
  have K := hid (fun V (h : Below W.heap.size W V) => (C.out V).mono fun r w' h' => (⟨h'.1, below_then h h'.2⟩ : _ ∧ Below W.heap.size W w'))
  have B0 : Below W.heap.size W W.drew := below_drewN W 1
  go_region_held3 (fun V => V.cell? ⟨w.heap.size, 0, none⟩ = some (.int .i64 b) ∧ V.cell? ⟨w.heap.size, 1, none⟩ = some (.int .i64 t) ∧ V.cell? ⟨w.heap.size, 2, none⟩ = some (.int .i64 l)) (exact HS.out _ (by assumption))
    ((go_at_call 40; (with_reducible refine (K.out _ (by assumption)).mono ?_); rintro r w6 ⟨rfl, B6⟩))
  rw [e1.out, e2.out]
  obtain ⟨hq0, hq1⟩ := Hq.out
  obtain ⟨hk0, hk1⟩ := Hk.out
  have HBW := hid (below_then HB.out B6)
  have HP6 := hid (HP.out.below B6 HP.out.lt)
  clear e1 e2 Hq Hk B0 B6 HS K C hne hne2 hi0 h12
  generalize (i : Int) / (12 * b) = q at *
  generalize (i : Int) % (12 * b) = k at *
  have hr0 := Gr.rem_iff k l 0
  have hr3 := Gr.rem_iff k l 3
  rw [Int.sub_zero, Int.add_zero] at hr0
  have hisr : Gr.isr q k l = (((q == 0 || q == 7) && ((k - l).tmod 6 == 0)) || ((q == 4 || q == 11) && ((k - l - 3).tmod 6 == 0))) := by rw [hr0, hr3]; rfl
  clear hr0 hr3
  generalize h0 : ((k - l).tmod 6 == 0) = r0 at *
  generalize h3 : ((k - l - 3).tmod 6 == 0) = r3 at *
  obtain ⟨z, hz⟩ : ∃ z, z = Gr.kd b t l i := ⟨_, rfl⟩
  rw [← hz] at HE
  have HZ := hid hz
  clear hz
  have hw1 : (q = 0 ∧ r0 = true ∧ z = 1) ∨ (q = 0 ∧ r0 = false ∧ z = 2) ∨ (q = 4 ∧ r3 = true ∧ z = 1) ∨ (q = 4 ∧ r3 = false ∧ z = 3) ∨ (q = 7 ∧ r0 = true ∧ z = 1) ∨ (q = 7 ∧ r0 = false ∧ z = 3) ∨ (q = 11 ∧ r3 = true ∧ z = 1) ∨ (q = 11 ∧ r3 = false ∧ z = 3) ∨
      ((0 == q) = false ∧ (4 == q) = false ∧ (7 == q) = false ∧ (11 == q) = false ∧ decide (q < t) = true ∧ z = 2) ∨ ((0 == q) = false ∧ (4 == q) = false ∧ (7 == q) = false ∧ (11 == q) = false ∧ decide (q < t) = false ∧ z = 3) := by
    have hE := HE.out
    rw [hisr] at hE
    by_cases a0 : q = 0
    · subst a0
      cases r0
      · simp [show (0 : Int) < t by omega] at hE; simp [hE]
      · simp at hE; simp [hE]
    by_cases a4 : q = 4
    · subst a4
      cases r3
      · simp [show ¬ (4 : Int) < t by omega] at hE; simp [hE]
      · simp at hE; simp [hE]
    by_cases a7 : q = 7
    · subst a7
      cases r0
      · simp [show ¬ (7 : Int) < t by omega] at hE; simp [hE]
      · simp at hE; simp [hE]
    by_cases a11 : q = 11
    · subst a11
      cases r3
      · simp [show ¬ (11 : Int) < t by omega] at hE; simp [hE]
      · simp at hE; simp [hE]
    by_cases hlt : q < t
    · simp [a0, a4, a7, a11, hlt] at hE; simp [a0, a4, a7, a11, Ne.symm a0, Ne.symm a4, Ne.symm a7, Ne.symm a11, hlt, hE]
    · simp [a0, a4, a7, a11, hlt] at hE; simp [a0, a4, a7, a11, Ne.symm a0, Ne.symm a4, Ne.symm a7, Ne.symm a11, hlt, hE]
  clear hisr HE
  have c1 : w6.cell? ⟨w.heap.size, 1, none⟩ = some (.int .i64 t) := HP6.out.cell 1
  have c2 : w6.cell? ⟨w.heap.size, 2, none⟩ = some (.int .i64 l) := HP6.out.cell 2
  rcases hw1 with ⟨rfl, rfl, rfl⟩ | ⟨rfl, rfl, rfl⟩ | ⟨rfl, rfl, rfl⟩ | ⟨rfl, rfl, rfl⟩ | ⟨rfl, rfl, rfl⟩ | ⟨rfl, rfl, rfl⟩ | ⟨rfl, rfl, rfl⟩ | ⟨rfl, rfl, rfl⟩ | ⟨g0, g4, g7, g11, gl, rfl⟩ | ⟨g0, g4, g7, g11, gl, rfl⟩
  all_goals
    go_wp2_with fail
    refine (R.out _).mono ?_
    rintro r w7 ⟨rfl, B7⟩
    have HB7 := hid (below_then HBW.out B7)
    have HP7 := hid (HP6.out.below B7 HP6.out.lt)
    have hlt7 : w.heap.size < w7.heap.size := HP7.out.lt
    have hlt71 : w.heap.size < w7.heap.size + 1 := by omega
    have hlt72 : w.heap.size < w7.heap.size + 1 + 1 := by omega
    have hlt73 : w.heap.size < w7.heap.size + 1 + 1 + 1 := by omega
    have d1 : w7.cell? ⟨w.heap.size, 1, none⟩ = some (.int .i64 t) := HP7.out.cell 1
    have d2 : w7.cell? ⟨w.heap.size, 2, none⟩ = some (.int .i64 l) := HP7.out.cell 2
    clear c1 c2 B7
    go_wp2
    refine wp_loop_rounds 5 ?_
    repeat (rw [rounds_succ]; go_wp2)
    go_ret
    refine ⟨ret_int HZ.out, ?_⟩
    repeat refine bal ?_ _
    exact HB7.out
end Go.Proofs.Ytighnjbcnfnpmaa

/- userplane/noise: shifts, step. -/
import Derived.Test.YtngggknejkcepaaNoi9
import Derived.Test.YtngggknejkcepaaLib
import Derived.Test.YtngggknejkcepaaProg
import Derived.StillTailTactics
import Derived.Lib.Hide
import Derived.Shelf.Abstract
import Derived.OrdersIn
import Derived.Deep.QuietTactic
import Derived.Deep.RegionHeld3
import Derived.BigQuiet
namespace Go.Proofs.Ytngggknejkcepaa
open Go.RowKit Go.Shelf
set_option linter.unusedVariables false
/-- Block g is just the cells cs. -/
def Blk (w : World) (g : Nat) (t : TypeId) (cs : Array Value) : Prop := w.heap[g]? = some (.cells cs t (0, 0))
section
variable {w w' : World} {g : Nat} {t : TypeId} {cs : Array Value}
theorem Blk.lt (h : Blk w g t cs) : g < w.heap.size := (Array.getElem?_eq_some_iff.1 h).1
theorem Blk.cell (h : Blk w g t cs) (i : Nat) : w.cell? ⟨g, i, none⟩ = cs[i]? := cell_of_row w g i cs t (0, 0) h
theorem Blk.frozen (h : Blk w g t cs) (i : Nat) : w.frozen? ⟨g, i, none⟩ = false := by
  unfold Blk at h
  simp [World.frozen?, h]
theorem Blk.new (w : World) (t : TypeId) (cs : Array Value) : Blk (w.alloc (.cells cs t)) w.heap.size t cs := heap_alloc_new w _
theorem Blk.set_ (h : Blk w g t cs) (i : Nat) (u : Value) : Blk (w.setCell ⟨g, i, none⟩ u) g t (cs.setIfInBounds i u) := by
  unfold Blk at h ⊢
  simp [World.setCell, Array.getElem?_modify, h]
theorem Blk.fr {S : Nat → Prop} (h : Blk w g t cs) (hf : Fr S w w') (hs : ¬ S g) : Blk w' g t cs := (hf.block g h.lt hs).trans h
theorem Blk.below {B : Nat} (h : Blk w g t cs) (hb : Below B w w') (hg : g < B) : Blk w' g t cs := (hb.block g hg).trans h
end
theorem shifts_any (w : World) : Calls Try.prog 51 #[] w fun e w' => e = .returned (.agg #[.int .i64 13, .int .i64 7, .int .i64 17]) ∧ Below w.heap.size w w' := by
  go_enter Try.func51, Try.ntmps51
  go_wp2
  have hu : Try.prog.underlying 95 = some (.array 3 3) := Try.underlying95
  have hi : (Try.prog.info? 95).map (·.size) = some 3 := by kernel_rfl
  exact bodyPost_ret (results_cell_row rfl _ _ w.heap.size _ _ _ _ rfl (heap_alloc_new w _) hu rfl hi) rfl ⟨rfl, below_alloc _ _⟩
set_option maxRecDepth 100000 in
set_option maxHeartbeats 1000000 in
/-- A step of a generator at a cell. -/
theorem step_any (b : Nat) (t : TypeId) (x : Nat) (hx : x < Noi.M) (r : List Value) (w : World) (hb : Blk w b t (.int .u64 x :: r).toArray) :
    Calls Try.prog 39 #[.pointer (some ⟨b, 0, none⟩)] w fun e w' => e = .returned (.int .u64 (Noi.step x : Nat)) ∧ Blk w' b t (.int .u64 (Noi.step x : Nat) :: r).toArray ∧ Fr (fun k => k = b) w w' := by
  have hbl := hb.lt
  have C := hid (fun w => shifts_any w)
  have HX := hid hx
  have HB := hid hb
  clear hx hb
  go_enter Try.func39, Try.ntmps39
  go_wp2_with fail
  refine (C.out _).mono ?_
  rintro e w1 ⟨rfl, B1⟩
  have HB1 := hid (HB.out.below B1 hbl)
  have hb1 : b < w1.heap.size := Nat.lt_of_lt_of_le hbl B1.size
  go_wp2
  generalize hW : World.alloc _ _ = W
  replace hW := hW.symm
  have HB2 := hid (show Blk W b _ _ by rw [hW]; exact HB1.out.fr (Fr.alloc (fun _ => False) w1 _) (fun h => h))
  have HD2 := hid (show Blk W w1.heap.size _ _ by rw [hW]; exact Blk.new w1 _ _)
  have HF2 := hid (show Fr (fun k => k = b) w W by rw [hW]; exact ((Fr.of_below B1).mono (fun k h1 h2 => by omega)).trans (Fr.alloc _ _ _))
  clear hW
  have c0 : W.cell? ⟨b, 0, none⟩ = some (.int .u64 (x : Nat)) := HB2.out.cell 0
  have f0 : W.frozen? ⟨b, 0, none⟩ = false := HB2.out.frozen 0
  have d0 : W.cell? ⟨w1.heap.size, 0, none⟩ = some (.int .i64 13) := HD2.out.cell 0
  go_still_tail 14, (by kernel_rfl)
  go_wp2
  rw [Noi.s1_cast HX.out]
  have hf : Fr (fun k => k = b) W (W.setCell ⟨b, 0, none⟩ (.int .u64 (Noi.s1 x : Nat))).drew := (Fr.setCell (S := fun k => k = b) _ ⟨b, 0, none⟩ _ rfl).trans (Fr.drew _ _)
  have HF3 := hid (HF2.out.trans hf)
  have HB3 := hid ((HB2.out.set_ 0 (.int .u64 (Noi.s1 x : Nat))).fr (Fr.drew (fun _ => False) _) (fun h => h))
  have HD3 := hid (HD2.out.fr hf (by have := hb1; omega))
  clear c0 f0 d0 hf HF2 HB2 HD2
  generalize World.drew _ = W3 at *
  have c1 : W3.cell? ⟨b, 0, none⟩ = some (.int .u64 (Noi.s1 x : Nat)) := HB3.out.cell 0
  have f1 : W3.frozen? ⟨b, 0, none⟩ = false := HB3.out.frozen 0
  have d1 : W3.cell? ⟨w1.heap.size, 1, none⟩ = some (.int .i64 7) := HD3.out.cell 1
  go_still_tail 14, (by kernel_rfl)
  go_wp2
  rw [Noi.s2_cast (Noi.s1_lt HX.out)]
  have hf : Fr (fun k => k = b) W3 (W3.setCell ⟨b, 0, none⟩ (.int .u64 (Noi.s2 (Noi.s1 x) : Nat))).drew := (Fr.setCell (S := fun k => k = b) _ ⟨b, 0, none⟩ _ rfl).trans (Fr.drew _ _)
  have HF4 := hid (HF3.out.trans hf)
  have HB4 := hid ((HB3.out.set_ 0 (.int .u64 (Noi.s2 (Noi.s1 x) : Nat))).fr (Fr.drew (fun _ => False) _) (fun h => h))
  have HD4 := hid (HD3.out.fr hf (by have := hb1; omega))
  clear c1 f1 d1 hf HF3 HB3 HD3
  generalize World.drew _ = W4 at *
  have c2 : W4.cell? ⟨b, 0, none⟩ = some (.int .u64 (Noi.s2 (Noi.s1 x) : Nat)) := HB4.out.cell 0
  have f2 : W4.frozen? ⟨b, 0, none⟩ = false := HB4.out.frozen 0
  have d2 : W4.cell? ⟨w1.heap.size, 2, none⟩ = some (.int .i64 17) := HD4.out.cell 2
  go_still_tail 14, (by kernel_rfl)
  go_wp2
  rw [show _ = ((Noi.step x : Nat) : Int) from Noi.s3_cast (Noi.s2_lt (Noi.s1_lt HX.out))]
  have hf : Fr (fun k => k = b) W4 (W4.setCell ⟨b, 0, none⟩ (.int .u64 (Noi.step x : Nat))).drew := (Fr.setCell (S := fun k => k = b) _ ⟨b, 0, none⟩ _ rfl).trans (Fr.drew _ _)
  have HF5 := hid (HF4.out.trans hf)
  have HB5 := hid ((HB4.out.set_ 0 (.int .u64 (Noi.step x : Nat))).fr (Fr.drew (fun _ => False) _) (fun h => h))
  have HD5 := hid (HD4.out.fr hf (by have := hb1; omega))
  clear c2 f2 d2 hf HF4 HB4 HD4
  generalize World.drew _ = W5 at *
  have c0 : W5.cell? ⟨b, 0, none⟩ = some (.int .u64 (Noi.step x : Nat)) := HB5.out.cell 0
  go_wp2
  go_ret
  exact ⟨rfl, HB5.out, HF5.out⟩
end Go.Proofs.Ytngggknejkcepaa

/- userplane/subblock: the column permutation, and the number of rows. -/
import Derived.Test.YtloldjmibjkkkaaLib
import Derived.Test.YtloldjmibjkkkaaProg
namespace Go.Proofs.Ytloldjmibjkkkaa
open Go.RowKit

namespace Cols
/-- The sum of the parts of column i that the bits below j give. -/
def part (i j : Nat) : Int := ((List.range j).map fun t => if i.testBit t then ((16 / 2 ^ t : Nat) : Int) else 0).sum
/-- The array when the columns below k are done, and column k as far as bit j. -/
def L (k j : Nat) : List Int := (List.range 32).map fun i => if i < k then part i 5 else if i = k then part i j else 0
def cells (k j : Nat) : Array Value := ((L k j).map (Value.int .i64)).toArray
theorem L_set : ∀ k, k < 32 → ∀ j, j < 5 → k.testBit j = true → (L k j).set k ((L k j).getD k 0 + ((16 / 2 ^ j : Nat) : Int)) = L k (j + 1) := by decide +kernel
theorem L_skip : ∀ k, k < 32 → ∀ j, j < 5 → k.testBit j = false → L k (j + 1) = L k j := by decide +kernel
theorem L_next : ∀ k, k < 32 → L k 5 = L (k + 1) 0 := by decide +kernel
theorem and_test : ∀ k : Nat, k < 32 → ∀ j : Nat, j < 5 → (bits BinOp.and IntKind.i64 (k : Int) ((2 ^ j : Nat) : Int) != 0) = k.testBit j := by decide +kernel
theorem L_bd : ∀ k, k < 32 → ∀ j, j < 6 → 0 ≤ (L k j).getD k 0 ∧ (L k j).getD k 0 ≤ 31 := by decide +kernel
theorem L_len (k j : Nat) : (L k j).length = 32 := by simp [L]
theorem cells_size (k j : Nat) : (cells k j).size = 32 := by simp [cells, L]
theorem cells_at (k j i : Nat) (h : i < 32) : (cells k j)[i]? = some (.int .i64 ((L k j).getD i 0)) := by
  simp [cells, L_len, h]
theorem cells_set (k j i : Nat) (x : Int) : (cells k j).setIfInBounds i (.int .i64 x) = (((L k j).set i x).map (Value.int .i64)).toArray := by
  simp [cells, List.map_set]
def perm : List Int := [0, 16, 8, 24, 4, 20, 12, 28, 2, 18, 10, 26, 6, 22, 14, 30, 1, 17, 9, 25, 5, 21, 13, 29, 3, 19, 11, 27, 7, 23, 15, 31]
theorem L_end : L 32 0 = perm := by decide +kernel
def permA : Array Value := (perm.map (Value.int .i64)).toArray
theorem permA_size : permA.size = 32 := by decide
theorem permA_at (i : Nat) (h : i < 32) : permA[i]? = some (.int .i64 (perm.getD i 0)) := by
  have hl : perm.length = 32 := by decide
  simp [permA, hl, h]
theorem permA_one : ∀ u ∈ permA.toList, u.oneCell' = true := by simp [permA, Value.oneCell']
theorem cells_end : cells 32 0 = permA := by rw [cells, L_end, permA]
theorem pow_lt {j : Nat} (h : 2 ^ j < 32) : j < 5 := by
  rcases Nat.lt_or_ge j 5 with h' | h'
  · exact h'
  · have := Nat.pow_le_pow_right (n := 2) (by omega) h'; omega
end Cols

set_option maxHeartbeats 1000000 in
theorem columns_any (w : World) : Calls Try.prog 46 #[] w fun e w' => e = .returned (.agg Cols.permA) ∧ Below w.heap.size w w' ∧ w'.heap.size = w.heap.size + 1 := by
  go_enter Try.func46, Try.ntmps46
  go_wp2
  go_loopw [3] (fun k wr => ∃ n : Nat, n ≤ 32 ∧ k = .int .i64 n ∧ wr.heap[w.heap.size]? = some (.cells (Cols.cells n 0) 66 (0, 0)) ∧ Below w.heap.size w wr ∧ Hid (wr.heap.size = w.heap.size + 1)) (fun k _ => 32 - (intOf k).toNat)
  case atStart => exact ⟨0, by omega, rfl, heap_alloc_new w _, (Below.refl _ _).alloc (Nat.le_refl _) _, by simp [Hid]⟩
  case round =>
    obtain ⟨k, hk, rfl, hrow, hB, hsz⟩ := hrel
    by_cases hlt : k < 32
    · obtain ⟨wo, rfl⟩ : ∃ wo : World, wo = wr := ⟨_, rfl⟩
      have HR := hid hrow
      clear hrow
      go_wp2
      go_loopw [2] (fun b wr => ∃ j c : Nat, j ≤ 5 ∧ Hid (c = 2 ^ j) ∧ 1 ≤ c ∧ c ≤ 32 ∧ b = .int .i64 c ∧ Hid (wr.heap[w.heap.size]? = some (.cells (Cols.cells k j) 66 (0, 0))) ∧ Below w.heap.size w wr ∧ Hid (wr.heap.size = w.heap.size + 1)) (fun b _ => 64 - (intOf b).toNat)
      case atStart => exact ⟨0, 1, by omega, rfl, by omega, by omega, rfl, HR.out, hB, hsz⟩
      case round =>
        obtain ⟨j, c, hj, hc, hc1, hc2, rfl, hrow, hB2, hsz2⟩ := hrel
        by_cases hcl : c < 32
        · have hj5 : j < 5 := Cols.pow_lt (by rw [← hc.out]; exact hcl)
          have hcell : wr.cell? ⟨w.heap.size, k, none⟩ = some (.int .i64 ((Cols.L k j).getD k 0)) := by
            rw [cell_of_row _ _ _ _ _ _ hrow.out]; exact Cols.cells_at k j k hlt
          have hfr : wr.frozen? ⟨w.heap.size, k, none⟩ = false := frozen_of_row _ _ _ _ _ hrow.out
          have hbd := Cols.L_bd k hlt j (by omega)
          have htest := Cols.and_test k hlt j hj5
          rw [← hc.out] at htest
          have hc16 : c ≤ 16 := by rw [hc.out]; exact Nat.pow_le_pow_right (by omega) (show j ≤ 4 by omega)
          have hq : 0 ≤ (16 : Int) / c ∧ (16 : Int) / c ≤ 16 := ⟨Int.ediv_nonneg (by omega) (by omega), Int.ediv_le_self _ (by omega)⟩
          have hset := Cols.L_set k hlt j hj5
          rw [← hc.out] at hset
          have HS := hid hset
          have HSk := hid (Cols.L_skip k hlt j hj5)
          clear hset
          obtain ⟨x, hx⟩ : ∃ x, x = (Cols.L k j).getD k 0 := ⟨_, rfl⟩
          rw [← hx] at hcell hbd
          have HX := hid hx
          clear hx
          cases ht : k.testBit j with
          | true =>
            rw [ht] at htest
            have HT := hid ht
            clear ht
            go_wp2
            go_region
            all_goals go_wp2
            all_goals go_roundw
            case rel =>
              refine ⟨j + 1, c * 2, by omega, by rw [Hid, hc.out, Nat.pow_succ], by omega, by omega, by go_num, ?_, ?_, by rw [Hid]; simpa using hsz2.out⟩
              · rw [Hid]
                have h1 := HS.out HT.out
                rw [← HX.out] at h1
                have h2 := heap_setCell_same wr w.heap.size k _ _ (.int .i64 (x + ((16 / c : Nat) : Int))) hrow.out
                rw [Cols.cells_set, h1] at h2
                exact h2
              · exact hB2.drew.setCell (p := ⟨w.heap.size, k, none⟩) (Nat.le_refl _) _
            case measure => simp [intOf]; omega
          | false =>
            rw [ht] at htest
            have HT := hid ht
            clear ht
            go_wp2
            go_roundw
            case rel =>
              refine ⟨j + 1, c * 2, by omega, by rw [Hid, hc.out, Nat.pow_succ], by omega, by omega, by go_num, ?_, hB2, hsz2⟩
              rw [Hid, Cols.cells, HSk.out HT.out]; exact hrow.out
            case measure => simp [intOf]; omega
        · have hj5 : j = 5 := by
            rcases Nat.lt_or_ge j 5 with h | h
            · have := Nat.pow_lt_pow_right (a := 2) (by omega) h
              rw [← hc.out] at this; omega
            · omega
          have HJ := hid hj5
          clear hj5
          go_wp2
          go_roundw
          case rel =>
            refine ⟨k + 1, by omega, by go_num, ?_, hB2, hsz2⟩
            have := hrow.out
            rw [HJ.out] at this
            rw [Cols.cells, ← Cols.L_next k hlt]; exact this
          case measure => simp [intOf]; omega
    · obtain rfl : k = 32 := by omega
      rw [Cols.cells_end] at hrow
      have hu : Try.prog.underlying 66 = some (.array 32 3) := Try.underlying66
      have hi : (Try.prog.info? 66).map (·.size) = some Cols.permA.size := by kernel_rfl
      have HR := hid hrow
      have HI := hid hi
      have HU := hid hu
      clear hrow hi hu
      go_wp2_with (first
        | (refine wpList_run_value rfl (exec_load_row 66 (.tmp 0) rfl w.heap.size rfl _ _ _ _ HR.out HU.out rfl HI.out) ?_)
        | (refine wpList_run_skip rfl (exec_store_row 66 (.tmp 0) (.tmp 22) rfl w.heap.size 0 rfl _ _ (.agg Cols.permA) rfl HR.out HI.out (by simp [Value.cells]) Cols.permA_one) ?_))
      have hself : wr.setRow w.heap.size ((Cols.permA.toList.take 0 ++ (Value.agg Cols.permA).cells.toList ++ Cols.permA.toList.drop (0 + (Value.agg Cols.permA).cells.size)).toArray) = wr := by
        rw [splice_all Cols.permA (.agg Cols.permA) rfl]
        exact setRow_self wr w.heap.size _ _ _ HR.out
      rw [hself]
      exact bodyPost_ret (results_cell_row rfl _ _ w.heap.size _ _ _ _ rfl HR.out HU.out rfl HI.out) rfl ⟨rfl, hB, hsz.out⟩
end Go.Proofs.Ytloldjmibjkkkaa

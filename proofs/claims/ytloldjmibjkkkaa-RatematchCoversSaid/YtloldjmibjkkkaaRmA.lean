/- userplane/ratematch: of, the closures of full, full. -/
import Derived.Test.YtloldjmibjkkkaaRm9
import Derived.Test.YtloldjmibjkkkaaOrder
import Derived.StillTailTactics
import Derived.RegionTactic
import Derived.Deep.RegionHeld3
import Derived.IntWalk
namespace Go.Proofs.Ytloldjmibjkkkaa
open Go.RowKit Go.Shelf
set_option linter.unusedVariables false
def wordV (k f R n : Nat) : Value := .agg #[.int .i64 k, .int .i64 f, .int .i64 R, .int .i64 n]
set_option maxHeartbeats 1000000 in
theorem rmOf_ok (k f : Nat) (limit : Int) (hk1 : 40 ≤ k) (hk2 : k ≤ 6144) (hf : f < k) (hl : 1 ≤ limit) (w : World) :
    Calls Try.prog 21 #[.int .i64 k, .int .i64 f, .int .i64 limit] w fun e w' => e = .returned (.tuple #[.agg #[.int .i64 k, .int .i64 f, .int .i64 (Rm.rows k), .int .i64 (Rm.size k limit)], .int .i64 0]) ∧ Below w.heap.size w w' := by
  have HC := hid (show ∀ w, Calls Try.prog 33 #[.int .i64 ((k : Int) + 4)] w fun e w' => e = .returned (.int .i64 (Rm.rows k)) ∧ w = w' from fun w => by
    have := rows_any ((k : Int) + 4) w
    rw [Cols.rowsZ_in (by omega) (by omega)] at this
    rw [show ((Rm.rows k : Nat) : Int) = ((k : Int) + 4 + 31) / 32 by unfold Rm.rows; omega]
    exact this)
  have hR : Rm.rows k ≤ 200 := by unfold Rm.rows; omega
  have HS := hid (show ((Rm.size k limit : Nat) : Int) = if limit ≤ 96 * (Rm.rows k : Int) then limit else 96 * (Rm.rows k : Int) by unfold Rm.size; split <;> omega)
  generalize Rm.rows k = R at *
  generalize Rm.size k limit = S at *
  have hfk : decide ((k : Int) ≤ (f : Int)) = false := by simp; omega
  have hfk2 : decide (k ≤ f) = false := by simp; omega
  by_cases hle : limit ≤ 96 * (R : Int)
  · have HS2 := hid (show ((S : Nat) : Int) = limit by rw [HS.out, if_pos hle])
    go_enter Try.func21, Try.ntmps21
    go_wp2_with (go_at_call 33; refine (HC.out _).mono ?_; rintro e w' ⟨rfl, rfl⟩)
    all_goals (
      rw [HS2.out]
      first
      | exact bodyPost_ret (v := .tuple #[.agg #[.int .i64 k, .int .i64 f, .int .i64 R, .int .i64 limit], .int .i64 0]) (by simp [results, Try.results21, go_sem]) rfl ⟨rfl, below_alloc _ _⟩
      | (exfalso; omega))
  · have HS2 := hid (show ((S : Nat) : Int) = 96 * (R : Int) by rw [HS.out, if_neg hle])
    go_enter Try.func21, Try.ntmps21
    go_wp2_with (go_at_call 33; refine (HC.out _).mono ?_; rintro e w' ⟨rfl, rfl⟩)
    all_goals (
      rw [HS2.out]
      first
      | exact bodyPost_ret (v := .tuple #[.agg #[.int .i64 k, .int .i64 f, .int .i64 R, .int .i64 (96 * (R : Int))], .int .i64 0]) (by simp [results, Try.results21, go_sem]) rfl ⟨rfl, below_alloc _ _⟩
      | (exfalso; omega))
theorem rmOf_err (k f limit : Int) (h : Rm.valid k f limit = false) (w : World) :
    Calls Try.prog 21 #[.int .i64 k, .int .i64 f, .int .i64 limit] w fun e w' => e = .returned (.tuple #[.agg #[.int .i64 0, .int .i64 0, .int .i64 0, .int .i64 0], .int .i64 2]) ∧ Below w.heap.size w w' := by
  have hv := Rm.valid_no h
  clear h
  by_cases h1 : k < 40
  · go_enter Try.func21, Try.ntmps21
    go_wp2
    exact bodyPost_ret (v := .tuple #[.agg #[.int .i64 0, .int .i64 0, .int .i64 0, .int .i64 0], .int .i64 2]) (by simp [results, Try.results21, go_sem]) rfl ⟨rfl, below_alloc _ _⟩
  by_cases h2 : 6144 < k
  · go_enter Try.func21, Try.ntmps21
    go_wp2
    exact bodyPost_ret (v := .tuple #[.agg #[.int .i64 0, .int .i64 0, .int .i64 0, .int .i64 0], .int .i64 2]) (by simp [results, Try.results21, go_sem]) rfl ⟨rfl, below_alloc _ _⟩
  by_cases h3 : f < 0
  · go_enter Try.func21, Try.ntmps21
    go_wp2
    exact bodyPost_ret (v := .tuple #[.agg #[.int .i64 0, .int .i64 0, .int .i64 0, .int .i64 0], .int .i64 2]) (by simp [results, Try.results21, go_sem]) rfl ⟨rfl, below_alloc _ _⟩
  by_cases h4 : k ≤ f
  · go_enter Try.func21, Try.ntmps21
    go_wp2
    exact bodyPost_ret (v := .tuple #[.agg #[.int .i64 0, .int .i64 0, .int .i64 0, .int .i64 0], .int .i64 2]) (by simp [results, Try.results21, go_sem]) rfl ⟨rfl, below_alloc _ _⟩
  have h5 : limit < 1 := by omega
  clear hv
  go_enter Try.func21, Try.ntmps21
  go_wp2
  exact bodyPost_ret (v := .tuple #[.agg #[.int .i64 0, .int .i64 0, .int .i64 0, .int .i64 0], .int .i64 2]) (by simp [results, Try.results21, go_sem]) rfl ⟨rfl, below_alloc _ _⟩
/-- The plain position. -/
theorem full1_any (s d i bs bd : Nat) (hs : s ≤ 2) (hd : d ≤ 6148) (hi : i ≤ 100000) (w : World) (h1 : w.cell? ⟨bs, 0, none⟩ = some (.int .i64 s)) (h2 : w.cell? ⟨bd, 0, none⟩ = some (.int .i64 d)) :
    Calls Try.prog 38 #[.int .i64 i, .pointer (some ⟨bs, 0, none⟩), .pointer (some ⟨bd, 0, none⟩)] w fun e w' => e = .returned (.int .i64 ((s * d : Nat) + (i : Int))) ∧ w = w' := by
  have hsd : s * d ≤ 2 * 6148 := Nat.mul_le_mul hs hd
  have hmul : ((s * d : Nat) : Int) = (s : Int) * (d : Int) := Int.natCast_mul _ _
  rw [hmul] at *
  have hb : (s : Int) * (d : Int) ≤ 12296 := by rw [← hmul]; omega
  have hb0 : 0 ≤ (s : Int) * (d : Int) := by rw [← hmul]; omega
  clear hmul hsd
  go_enter Try.func38, Try.ntmps38
  go_wp2
  go_ret
  exact ⟨rfl, rfl⟩
theorem full2_any (f s d i bw bs bd bp : Nat) (hs : s ≤ 2) (hd : d ≤ 6148) (hi : i ≤ 100000) (w : World) (h1 : w.cell? ⟨bs, 0, none⟩ = some (.int .i64 s)) (h2 : w.cell? ⟨bd, 0, none⟩ = some (.int .i64 d)) (h3 : w.cell? ⟨bw, 1, none⟩ = some (.int .i64 f))
    (h4 : w.cell? ⟨bp, 0, none⟩ = some (.func (.func 38) #[] #[.pointer (some ⟨bs, 0, none⟩), .pointer (some ⟨bd, 0, none⟩)])) :
    Calls Try.prog 39 #[.int .i64 i, .pointer (some ⟨bw, 0, none⟩), .pointer (some ⟨bp, 0, none⟩)] w fun e w' => e = .returned (.int .i64 (if (i : Int) < f then -1 else (s * d : Nat) + (i : Int))) ∧ w = w' := by
  have C := hid (full1_any s d i bs bd hs hd hi w h1 h2)
  clear h1 h2
  by_cases h : i < f
  · have hd : decide ((i : Int) < (f : Int)) = true := by simp; omega
    rw [if_pos (by omega)]
    go_enter Try.func39, Try.ntmps39
    go_wp2
    go_ret
    exact ⟨rfl, rfl⟩
  · have hd : decide ((i : Int) < (f : Int)) = false := by simp; omega
    rw [if_neg (by omega)]
    generalize ((s * d : Nat) : Int) + (i : Int) = y at *
    go_enter Try.func39, Try.ntmps39
    go_wp2_with (refine C.out.mono ?_; rintro e w' ⟨rfl, rfl⟩)
    go_ret
    exact ⟨rfl, rfl⟩
end Go.Proofs.Ytloldjmibjkkkaa

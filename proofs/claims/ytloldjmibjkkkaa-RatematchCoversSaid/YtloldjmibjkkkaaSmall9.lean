/- userplane/subblock and its reference: the small functions. -/
import Derived.Test.YtloldjmibjkkkaaCols
namespace Go.Proofs.Ytloldjmibjkkkaa
open Go.RowKit

namespace Cols
def rowsZ (d : Int) : Int := if d < 1 ∨ 6148 < d then 0 else (d + 31) / 32
def colZ (k : Int) : Int := if k < 0 ∨ 31 < k then -1 else perm.getD k.toNat 0
theorem colZ_in {k : Int} (h0 : 0 ≤ k) (h1 : k < 32) : colZ k = perm.getD k.toNat 0 := by unfold colZ; rw [if_neg (by omega)]
theorem colZ_out {k : Int} (h : k < 0 ∨ 31 < k) : colZ k = -1 := by unfold colZ; rw [if_pos h]
theorem rowsZ_out {k : Int} (h : k < 1 ∨ 6148 < k) : rowsZ k = 0 := by unfold rowsZ; rw [if_pos h]
theorem rowsZ_in {k : Int} (h0 : 1 ≤ k) (h1 : k ≤ 6148) : rowsZ k = (k + 31) / 32 := by unfold rowsZ; rw [if_neg (by omega)]
theorem perm_bd : ∀ k, k < 32 → 0 ≤ perm.getD k 0 ∧ perm.getD k 0 < 32 := by decide +kernel
theorem colZ_bd {k : Int} (h0 : 0 ≤ k) (h1 : k < 32) : 0 ≤ colZ k ∧ colZ k < 32 := by
  rw [colZ_in h0 h1]; exact perm_bd _ (by omega)
end Cols

theorem rows_any (d : Int) (w : World) :
    Calls Try.prog 33 #[.int .i64 d] w fun e w' => e = .returned (.int .i64 (Cols.rowsZ d)) ∧ w = w' := by
  by_cases h1 : d < 1
  · go_enter Try.func33, Try.ntmps33
    go_wp2
    go_ret
    exact ⟨ret_int (Cols.rowsZ_out (.inl h1)).symm, rfl⟩
  · by_cases h2 : 6148 < d
    · go_enter Try.func33, Try.ntmps33
      go_wp2
      go_ret
      exact ⟨ret_int (Cols.rowsZ_out (.inr h2)).symm, rfl⟩
    · go_enter Try.func33, Try.ntmps33
      go_wp2
      go_ret
      exact ⟨ret_int (by rw [Cols.rowsZ_in (by omega) (by omega)]; omega), rfl⟩

set_option maxHeartbeats 400000 in
theorem refRows_any (d : Int) (w : World) :
    Calls Try.prog 30 #[.int .i64 d] w fun e w' => e = .returned (.int .i64 (Cols.rowsZ d)) ∧ w = w' := by
  by_cases h1 : d < 1
  · go_enter Try.func30, Try.ntmps30
    go_wp2
    go_ret
    exact ⟨ret_int (Cols.rowsZ_out (.inl h1)).symm, rfl⟩
  · by_cases h2 : 6148 < d
    · go_enter Try.func30, Try.ntmps30
      go_wp2
      go_ret
      exact ⟨ret_int (Cols.rowsZ_out (.inr h2)).symm, rfl⟩
    · go_enter Try.func30, Try.ntmps30
      go_wp2
      go_loop [3] (fun r => ∃ k : Nat, k ≤ 193 ∧ r = .int .i64 k ∧ 32 * ((k : Int) - 1) < d) (fun r => 193 - (intOf r).toNat)
      case atStart => exact ⟨0, by omega, rfl, by omega⟩
      case round =>
        obtain ⟨k, hk, rfl, hkd⟩ := hrel
        by_cases hlt : 32 * (k : Int) < d
        · go_wp2
          go_round
          case rel => exact ⟨k + 1, by omega, by go_num, by omega⟩
          case measure => simp [intOf]; omega
        · go_wp2
          go_ret
          exact ⟨ret_int (by rw [Cols.rowsZ_in (by omega) (by omega)]; omega), rfl⟩

theorem permA_two (v : Value) (h : v = .agg Cols.permA) : v.cells.size = 32 := by subst h; exact Cols.permA_size

set_option maxHeartbeats 400000 in
theorem refColumn_any (k : Int) (w : World) :
    Calls Try.prog 36 #[.int .i64 k] w fun e w' => e = .returned (.int .i64 (Cols.colZ k)) ∧ Below w.heap.size w w' := by
  by_cases h1 : k < 0
  · go_enter Try.func36, Try.ntmps36
    go_wp2
    go_ret
    exact ⟨ret_int (Cols.colZ_out (.inl h1)).symm, Below.refl _ _⟩
  · by_cases h2 : 31 < k
    · go_enter Try.func36, Try.ntmps36
      go_wp2
      go_ret
      exact ⟨ret_int (Cols.colZ_out (.inr h2)).symm, Below.refl _ _⟩
    · obtain ⟨n, rfl⟩ := Int.eq_ofNat_of_zero_le (show 0 ≤ k by omega)
      have hat : Cols.permA[n]? = some (.int .i64 (Cols.perm.getD n 0)) := Cols.permA_at n (by omega)
      simp only [Cols.permA, Cols.perm, List.map_cons, List.map_nil] at hat
      obtain ⟨x, hx⟩ : ∃ x, x = Cols.perm.getD n 0 := ⟨_, rfl⟩
      have HX := hid hx
      go_enter Try.func36, Try.ntmps36
      go_wp2
      go_ret
      exact ⟨ret_int (by rw [Cols.colZ_in (by omega) (by omega)]; simp [Cols.perm]), (Below.refl _ _).alloc (Nat.le_refl _) _⟩

end Go.Proofs.Ytloldjmibjkkkaa

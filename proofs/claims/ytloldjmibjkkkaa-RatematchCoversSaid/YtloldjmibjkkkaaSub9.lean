/- userplane/subblock: the interleaver of a stream and its closures. -/
import Derived.Test.YtloldjmibjkkkaaOrd9
import Derived.Test.YtloldjmibjkkkaaIter
namespace Go.Proofs.Ytloldjmibjkkkaa
open Go.RowKit

theorem shift1_any (m : Int) (w : World) :
    Calls Try.prog 43 #[.int .i64 m] w fun e w' => e = .returned (.int .i64 m) ∧ w' = w := by
  go_enter Try.func43, Try.ntmps43
  go_wp2
  go_ret
  exact ⟨rfl, rfl⟩

set_option maxHeartbeats 400000 in
theorem shift2_any (m b R : Nat) (w : World) (hm : m ≤ 100000) (hR : 1 ≤ R) (hR2 : R ≤ 1000) (hc : w.cell? ⟨b, 0, none⟩ = some (.int .i64 R)) :
    Calls Try.prog 44 #[.int .i64 m, .pointer (some ⟨b, 0, none⟩)] w fun e w' => e = .returned (.int .i64 ((m + 1) % (32 * R) : Nat)) ∧ w' = w := by
  have h0 : ¬ (32 * (R : Int) = 0) := by omega
  go_enter Try.func44, Try.ntmps44
  go_wp2
  go_ret
  exact ⟨ret_int (by push_cast; rfl), rfl⟩

/-- What is known of the shift of a stream: what it captures lies in a block of T. -/
def ShiftOk (W : World) (T : Nat → Prop) (sh : Value) (R : Nat) (s : Int) : Prop :=
  (s ≠ 2 ∧ sh = .func (.func 43) #[] #[]) ∨
  (s = 2 ∧ ∃ b, sh = .func (.func 44) #[] #[.pointer (some ⟨b, 0, none⟩)] ∧ T b ∧ W.cell? ⟨b, 0, none⟩ = some (.int .i64 R))
theorem ShiftOk.keep {W W' : World} {T : Nat → Prop} {sh : Value} {R : Nat} {s : Int} (h : ShiftOk W T sh R s) (hk : ∀ b, b < W.heap.size → T b → W'.heap[b]? = W.heap[b]?) : ShiftOk W' T sh R s := by
  rcases h with h | ⟨h, b, h1, h2, h3⟩
  · exact .inl h
  · exact .inr ⟨h, b, h1, h2, (World.cell?_of_block (w := W) (hk b (World.block_lt_of_cell? W _ h3) h2)).trans h3⟩
theorem ShiftOk.mono {W : World} {T T' : Nat → Prop} {sh : Value} {R : Nat} {s : Int} (h : ShiftOk W T sh R s) (hB : ∀ b, T b → T' b) : ShiftOk W T' sh R s := by
  rcases h with h | ⟨h, b, h1, h2, h3⟩
  · exact .inl h
  · exact .inr ⟨h, b, h1, hB b h2, h3⟩

set_option maxHeartbeats 1000000 in
theorem of_ok (d R : Nat) (s : Int) (hd1 : 1 ≤ d) (hd2 : d ≤ 6148) (hR1 : d ≤ 32 * R) (hR2 : 32 * R < d + 32) (hs0 : 0 ≤ s) (hs2 : s ≤ 2) (w : World) :
    Calls Try.prog 41 #[.int .i64 d, .int .i64 s] w fun e w' => ∃ sh, e = .returned (.tuple #[.agg #[.int .i64 R, sh], .int .i64 0]) ∧ ShiftOk w' (fun b => w.heap.size ≤ b ∧ b < w'.heap.size) sh R s ∧ Below w.heap.size w w' := by
  have hrz : Cols.rowsZ d = (R : Int) := by rw [Cols.rowsZ_in (by omega) (by omega)]; omega
  have HC := hid (show ∀ w, Calls Try.prog 33 #[.int .i64 d] w fun e w' => e = .returned (.int .i64 R) ∧ w = w' from fun w => by rw [← hrz]; exact rows_any d w)
  clear hrz
  have hr0 : ((R : Int) == 0) = false := by simp; omega
  by_cases h2 : s = 2
  · subst h2
    go_enter Try.func41, Try.ntmps41
    go_wp2_with (go_at_call 33; refine (HC.out _).mono ?_; rintro e w' ⟨rfl, rfl⟩)
    refine bodyPost_ret (v := .tuple #[.agg #[.int .i64 R, .func (.func 44) #[] #[.pointer (some ⟨w.heap.size + 1, 0, none⟩)]], .int .i64 0]) (by simp [results, Try.results41, go_sem]) rfl ⟨_, rfl, .inr ⟨rfl, w.heap.size + 1, rfl, ⟨by omega, by simp⟩, ?_⟩, ?_⟩
    · go_simp
    · exact ((Below.refl _ _).alloc (Nat.le_refl _) _).alloc (by simp) _
  · have hs' : (s == 2) = false := by simp [h2]
    have H2 := hid h2
    clear h2
    go_enter Try.func41, Try.ntmps41
    go_wp2_with (go_at_call 33; refine (HC.out _).mono ?_; rintro e w' ⟨rfl, rfl⟩)
    refine bodyPost_ret (v := .tuple #[.agg #[.int .i64 R, .func (.func 43) #[] #[]], .int .i64 0]) (by simp [results, Try.results41, go_sem]) rfl ⟨_, rfl, .inl ⟨H2.out, rfl⟩, ?_⟩
    exact ((Below.refl _ _).alloc (Nat.le_refl _) _).alloc (by simp) _

set_option maxHeartbeats 1000000 in
theorem of_err (d s : Int) (h : d < 1 ∨ 6148 < d ∨ s < 0 ∨ 2 < s) (w : World) :
    Calls Try.prog 41 #[.int .i64 d, .int .i64 s] w fun e w' => e = .returned (.tuple #[.agg #[.int .i64 0, .nilFunc], .int .i64 2]) ∧ Below w.heap.size w w' := by
  by_cases h1 : d < 1 ∨ 6148 < d
  · have HC := hid (show ∀ w, Calls Try.prog 33 #[.int .i64 d] w fun e w' => e = .returned (.int .i64 0) ∧ w = w' from fun w => by rw [← Cols.rowsZ_out h1]; exact rows_any d w)
    clear h1 h
    go_enter Try.func41, Try.ntmps41
    go_wp2_with (go_at_call 33; refine (HC.out _).mono ?_; rintro e w' ⟨rfl, rfl⟩)
    refine bodyPost_ret (v := .tuple #[.agg #[.int .i64 0, .nilFunc], .int .i64 2]) (by simp [results, Try.results41, go_sem]) rfl ⟨rfl, ?_⟩
    exact ((Below.refl _ _).alloc (Nat.le_refl _) _).alloc (by simp) _
  · obtain ⟨R, hR⟩ : ∃ R : Nat, Cols.rowsZ d = (R : Int) := ⟨((d + 31) / 32).toNat, by rw [Cols.rowsZ_in (by omega) (by omega)]; omega⟩
    have hR0 : 0 < R := by rw [Cols.rowsZ_in (by omega) (by omega)] at hR; omega
    have HC := hid (show ∀ w, Calls Try.prog 33 #[.int .i64 d] w fun e w' => e = .returned (.int .i64 R) ∧ w = w' from fun w => by rw [← hR]; exact rows_any d w)
    clear hR
    have hr0 : ((R : Int) == 0) = false := by simp; omega
    by_cases h2 : s < 0
    · go_enter Try.func41, Try.ntmps41
      go_wp2_with (go_at_call 33; refine (HC.out _).mono ?_; rintro e w' ⟨rfl, rfl⟩)
      refine bodyPost_ret (v := .tuple #[.agg #[.int .i64 0, .nilFunc], .int .i64 2]) (by simp [results, Try.results41, go_sem]) rfl ⟨rfl, ?_⟩
      exact ((Below.refl _ _).alloc (Nat.le_refl _) _).alloc (by simp) _
    · have h3 : 2 < s := by omega
      have h4 : ¬ s < 0 := by omega
      go_enter Try.func41, Try.ntmps41
      go_wp2_with (go_at_call 33; refine (HC.out _).mono ?_; rintro e w' ⟨rfl, rfl⟩)
      refine bodyPost_ret (v := .tuple #[.agg #[.int .i64 0, .nilFunc], .int .i64 2]) (by simp [results, Try.results41, go_sem]) rfl ⟨rfl, ?_⟩
      exact ((Below.refl _ _).alloc (Nat.le_refl _) _).alloc (by simp) _

theorem indices_any (u0 u1 : Value) (w : World) :
    Calls Try.prog 42 #[.agg #[u0, u1]] w fun e w' => e = .returned (.func (.func 45) #[] #[.pointer (some ⟨w.heap.size, 0, none⟩)]) ∧ w' = w.alloc (.cells #[u0, u1] 59) := by
  go_enter Try.func42, Try.ntmps42
  go_wp2
  go_ret
  exact ⟨rfl, rfl⟩
end Go.Proofs.Ytloldjmibjkkkaa

/- userplane/dematch: New. -/
import Derived.Test.YtpnmfnjpbhjddaaDemA
import Derived.Test.YtpnmfnjpbhjddaaQ4
namespace Go.Proofs.Ytpnmfnjpbhjddaa
open Go.RowKit Go.Shelf
set_option linter.unusedVariables false
attribute [local go_sem] Oper.semAt_some
attribute [local go_sem ↓] Go.wp_at_zero Go.wp_at_succ
theorem dnew_bad (k f limit : Int) (h : Rm.valid k f limit = false) (w : World) : Calls Try.prog 7 #[.int .i64 k, .int .i64 f, .int .i64 limit] w fun e w' => e = .returned (.tuple #[.pointer none, .int .i64 2]) ∧ Below w.heap.size w w' := by
  have HC := hid (rmUsable_any k f limit w)
  rw [Rm.usableR, if_neg (by simp [h])] at HC
  go_enter Try.func7, Try.ntmps7
  go_wp2_with fail
  refine HC.out.mono ?_
  rintro r w1 ⟨rfl, B1⟩
  go_wp2
  go_ret2
  exact ⟨rfl, B1⟩
set_option maxHeartbeats 1000000 in
theorem dnew_ok (k f : Nat) (limit : Int) (h : Rm.valid k f limit = true) (w : World) : Calls Try.prog 7 #[.int .i64 k, .int .i64 f, .int .i64 limit] w fun e w' => (∃ g q, e = .returned (.tuple #[.pointer (some ⟨g, 0, none⟩), .int .i64 0]) ∧ w.heap.size ≤ g ∧ w.heap.size ≤ q ∧ DB w' g q k f limit (De.freshN k f) 0) ∧ Below w.heap.size w w' := by
  have HC := hid (rmUsable_any k f limit w)
  rw [Rm.usableR, if_pos h] at HC
  obtain ⟨h1, h2, h3, h4, h5⟩ := Rm.valid_of h
  have HF := hid (fun W => dfresh_any k f limit (by omega) (by omega) W)
  unfold PV at HF
  generalize Rm.cnt _ _ = u at HC
  clear h h1 h2 h3 h4 h5
  go_enter Try.func7, Try.ntmps7
  go_wp2_with fail
  refine HC.out.mono ?_
  rintro r w1 ⟨rfl, B1⟩
  go_wp2_with fail
  have hP0 : Blk (w1.alloc (.cells #[.int .i64 k, .int .i64 f, .int .i64 limit] 48)) w1.heap.size 48 #[.int .i64 k, .int .i64 f, .int .i64 limit] := Blk.new w1 _ _
  have hsz : (w1.alloc (.cells #[.int .i64 k, .int .i64 f, .int .i64 limit] 48)).heap.size = w1.heap.size + 1 := by simp
  have HB1 := hid (below_then B1 (below_alloc w1 (.cells #[.int .i64 k, .int .i64 f, .int .i64 limit] 48)))
  generalize w1.alloc _ = W at hP0 hsz HB1 ⊢
  have HS := hid (fun V (h : Below W.heap.size W V) => (show V.cell? ⟨w1.heap.size, 0, none⟩ = some (.int .i64 k) ∧ V.cell? ⟨w1.heap.size, 1, none⟩ = some (.int .i64 f) ∧ V.cell? ⟨w1.heap.size, 2, none⟩ = some (.int .i64 limit) from
    ⟨(hP0.below h hP0.lt).cell 0, (hP0.below h hP0.lt).cell 1, (hP0.below h hP0.lt).cell 2⟩))
  have K := hid (fun V (h : Below W.heap.size W V) => (HF.out V).mono fun e V' h' => (show (∃ g, e = .returned (.slice (some ⟨g, 0, none⟩) (3 * (k + 4)) (3 * (k + 4))) ∧ OwnL V' W.heap.size 3 (.slice (some ⟨g, 0, none⟩) (3 * (k + 4)) (3 * (k + 4))) ((De.freshN k f).map (Value.int .i64))) ∧ Below W.heap.size W V' from
    ⟨h'.1.elim fun g hg => ⟨g, hg.1, hg.2.base_mono h.size⟩, below_then h h'.2⟩))
  have hB0 : Below W.heap.size W W.drew := (Fr.drew (fun _ => False) W).below (Nat.le_refl _) (fun _ _ h => h)
  clear hP0 HF
  go_region_held3 (fun V => V.cell? ⟨w1.heap.size, 0, none⟩ = some (.int .i64 k) ∧ V.cell? ⟨w1.heap.size, 1, none⟩ = some (.int .i64 f) ∧ V.cell? ⟨w1.heap.size, 2, none⟩ = some (.int .i64 limit)) (first | exact HS.out _ (by assumption) | exact HS.out _ (bal (by assumption) _))
    ((first
      | (go_at_call 18; refine (K.out _ (by assumption)).mono ?_; rintro e w2 ⟨⟨g, rfl, hown⟩, hB2⟩)))
  all_goals (go_wp2; go_ret2)
  all_goals
    have hW2 := hB2.size
    have hW := HB1.out.size
    refine ⟨⟨w2.heap.size, g, rfl, by omega, ?_, ?_, 3 * (k + 4), ?_, ?_⟩, HB1.out.trans ((hB2.trans ((below_alloc w2 _).mono hW2)).mono hW)⟩
    · have := (hown.block (g := g) rfl).1; omega
    · have := (hown.block (g := g) rfl).2; omega
    · rw [De.freshN_len]; exact Blk.new w2 _ _
    · rw [De.freshN_len]
      exact (hown.alloc _).rebase rfl
end Go.Proofs.Ytpnmfnjpbhjddaa

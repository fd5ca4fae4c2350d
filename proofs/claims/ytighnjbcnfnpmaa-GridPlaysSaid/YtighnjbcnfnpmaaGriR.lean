/- userplaneref17.Put, whether it takes the points or not; loads of a wrong length; the acts of GridPlays. -/
import Derived.Test.YtighnjbcnfnpmaaGriQ
namespace Go.Proofs.Ytighnjbcnfnpmaa
open Go.RowKit Go.Shelf
set_option linter.unusedVariables false
attribute [local go_sem ↓] Go.wp_at_zero Go.wp_at_succ
theorem rput_any (b t l first blocks : Int) (rb cap : Nat) (ps : List Pt) (vp : Value) (P : List Pt) (w : World) (hv : POwn w rb 53 (.slice (some ⟨rb, 0, none⟩) ps.length cap) ps) (hps : ps.length = (168 * b).toNat) (h0 : 0 < ps.length) (hm : ps.length ≤ 100000) (hP : PVw w vp P) :
    Calls Try.prog 28 #[RV b t l (.slice (some ⟨rb, 0, none⟩) ps.length cap), .int .i64 first, .int .i64 blocks, vp] w fun e w' => (∃ q cap', e = .returned (.tuple #[RV b t l (.slice (some ⟨q, 0, none⟩) ps.length cap'), .int .i64 (Gr.putE b t l first blocks P.length)]) ∧ (q = rb ∨ w.heap.size ≤ q) ∧ POwn w' q 53 (.slice (some ⟨q, 0, none⟩) ps.length cap') (Gr.putS b t l ps first blocks P)) ∧ Below w.heap.size w w' := by
  by_cases he : Gr.putE b t l first blocks P.length = 0
  · rw [show Gr.putS b t l ps first blocks P = Gr.putP b t l ps first blocks P from if_pos he]
    refine (rput_ok b t l first blocks _ ps vp P w hv.vw hps h0 hm hP he).mono ?_
    rintro r w' ⟨⟨q, c, h1, h2, h3⟩, h4⟩
    exact ⟨⟨q, c, by rw [he]; exact h1, .inr h2, h3⟩, h4⟩
  · rw [show Gr.putS b t l ps first blocks P = ps from if_neg he]
    refine (rput_err b t l first blocks _ _ _ vp P w hP he).mono ?_
    rintro r w' ⟨h1, h2⟩
    exact ⟨⟨rb, cap, h1, .inl rfl, hv.below h2 (Nat.le_refl _)⟩, h2⟩
theorem rload_len (b t l : Int) (a : Option Addr) (N c : Nat) (pa : Option Addr) (M pc : Nat) (w : World) (hl : M ≠ N) :
    Calls Try.prog 30 #[RV b t l (.slice a N c), .slice pa M pc] w fun e w' => e = .returned (.tuple #[RV b t l (.slice a N c), .int .i64 2]) ∧ Below w.heap.size w w' := by
  obtain ⟨hb1, hb2, hB⟩ := rboxes w b t l (.slice a N c)
  have hd : ((M : Int) != (N : Int)) = true := by simp; omega
  have c0 := hb1.cell 0
  have c1 := hb1.cell 1
  have c2 := hb1.cell 2
  have c3 := hb1.cell 3
  simp only [List.getElem?_toArray, List.getElem?_cons_zero, List.getElem?_cons_succ] at c0 c1 c2 c3
  have q0 := hb2.cell 0
  have q1 := hb2.cell 1
  have q2 := hb2.cell 2
  have q3 := hb2.cell 3
  simp only [List.getElem?_toArray, List.getElem?_cons_zero, List.getElem?_cons_succ] at q0 q1 q2 q3
  clear hb1 hb2 hB hl
  go_enter Try.func30, Try.ntmps30
  go_wp2
  exact bodyPost_ret (v := .tuple #[RV b t l (.slice a N c), .int .i64 2]) (by simp [results, Try.results30, go_sem]) rfl ⟨rfl, (below_alloc _ _).alloc (by simp) _⟩
theorem gload_len {w : World} {g q : Nat} {b t l : Int} {ps : List Pt} (hG : GB w g q b t l ps) (h0 : 0 < ps.length) (pa : Option Addr) (M pc : Nat) (hl : M ≠ ps.length) :
    Calls Try.prog 31 #[.pointer (some ⟨g, 0, none⟩), .slice pa M pc] w fun e w' => e = .returned (.int .i64 2) ∧ w = w' := by
  have HC := hid (gnone_no hG h0)
  obtain ⟨hne, cap, hA, hO⟩ := hG
  have p3 : w.cell? ⟨g, 3, none⟩ = some (.slice (some ⟨q, 0, none⟩) ps.length cap) := hA.cell 3
  have hd : ((M : Int) != (ps.length : Int)) = true := by simp; omega
  clear hA hO h0 hl
  go_enter Try.func31, Try.ntmps31
  go_wp2_with fail
  refine HC.out.mono ?_
  rintro r w1 ⟨rfl, rfl⟩
  go_wp2
  go_ret
  exact ⟨rfl, rfl⟩
theorem POwn.capN {w : World} {base : Nat} {e : TypeId} {g n cap : Nat} {xs : List Pt} (h : POwn w base e (.slice (some ⟨g, 0, none⟩) n cap) xs) : n ≤ cap := by
  rcases h.2 with ⟨h1, _⟩ | ⟨g', cap', cur, h1, _, _, h2, _⟩
  · simp at h1
  · simp only [Value.slice.injEq] at h1; omega
/-- A slice of n acts that came in. -/
def ActsIn (W : World) (v : Value) (n : Nat) (A : Nat → Nat → Int) : Prop :=
  ∃ a c, v = .slice a n c ∧ ∀ i, i < n → ∃ b off, a = some ⟨b, off, none⟩ ∧ ∀ j, j < 5 → W.cell? ⟨b, off + i * 5 + j, none⟩ = some (.int .i64 (A i j)) ∧ (Lit.int .i64 (A i j)).wf = true
theorem ActsIn.at {W W' : World} {a : Option Addr} {n c : Nat} {A : Nat → Nat → Int} (h : ActsIn W (.slice a n c) n A) (hB : Below W.heap.size W W') {i : Nat} (hi : i < n) : ∃ b off, a = some ⟨b, off, none⟩ ∧ W'.cell? ⟨b, off + i * 5, none⟩ = some (.int .i64 (A i 0)) ∧ W'.cell? ⟨b, off + i * 5 + 1, none⟩ = some (.int .i64 (A i 1)) ∧ W'.cell? ⟨b, off + i * 5 + 2, none⟩ = some (.int .i64 (A i 2)) ∧ W'.cell? ⟨b, off + i * 5 + 3, none⟩ = some (.int .i64 (A i 3)) ∧ W'.cell? ⟨b, off + i * 5 + 4, none⟩ = some (.int .i64 (A i 4)) ∧ (Lit.int .i64 (A i 1)).wf = true ∧ (Lit.int .i64 (A i 2)).wf = true := by
  obtain ⟨a', c', e, h⟩ := h
  simp only [Value.slice.injEq, true_and] at e
  obtain ⟨rfl, rfl⟩ := e
  obtain ⟨b, off, rfl, hc⟩ := h i hi
  have g : ∀ j, j < 5 → W'.cell? ⟨b, off + i * 5 + j, none⟩ = some (.int .i64 (A i j)) := fun j hj => (hB.cell (p := ⟨b, off + i * 5 + j, none⟩) (World.block_lt_of_cell? W _ (hc j hj).1)).trans (hc j hj).1
  exact ⟨b, off, rfl, g 0 (by omega), g 1 (by omega), g 2 (by omega), g 3 (by omega), g 4 (by omega), (hc 1 (by omega)).2, (hc 2 (by omega)).2⟩
end Go.Proofs.Ytighnjbcnfnpmaa

/- userplane/grid: Put, whether it takes the points or not; one coordinate stored. -/
import Derived.Test.YtighnjbcnfnpmaaGriK
namespace Go.Proofs.Ytighnjbcnfnpmaa
open Go.RowKit Go.Shelf
set_option linter.unusedVariables false
attribute [local go_sem ↓] Go.wp_at_zero Go.wp_at_succ
namespace Gr
/-- The points after a Put. -/
def putS (b t l : Int) (P : List (Int × Int)) (first blocks : Int) (q : List (Int × Int)) : List (Int × Int) := if putE b t l first blocks q.length = 0 then putP b t l P first blocks q else P
end Gr
theorem putS_len (b t l : Int) (P : List Pt) (first blocks : Int) (q : List Pt) : (Gr.putS b t l P first blocks q).length = P.length := by
  unfold Gr.putS
  split
  · exact putP_len _ _ _ _ _ _ _
  · rfl
theorem gput_any {w : World} {g q : Nat} {b t l : Int} {ps : List Pt} (hG : GB w g q b t l ps) (hv : Gr.vld b t l = true) (hps : ps.length = (168 * b).toNat) (first blocks : Int) (wf : (Lit.int .i64 first).wf = true) (wb : (Lit.int .i64 blocks).wf = true) (v : Value) (P : List Pt) (hP : PVw w v P) (hpq : ∀ b off n c, v = .slice (some ⟨b, off, none⟩) n c → b ≠ q) :
    Calls Try.prog 23 #[.pointer (some ⟨g, 0, none⟩), .int .i64 first, .int .i64 blocks, v] w fun e w' => e = .returned (.int .i64 (Gr.putE b t l first blocks P.length)) ∧ GB w' g q b t l (Gr.putS b t l ps first blocks P) ∧ Fr (fun j => j = q) w w' := by
  have hc := Gr.vld_iff.1 hv
  have b0 := hc.b0
  by_cases he : Gr.putE b t l first blocks P.length = 0
  · rw [show Gr.putS b t l ps first blocks P = Gr.putP b t l ps first blocks P from if_pos he]
    refine (gput_ok hG hv hps first blocks wf wb v P hP hpq he).mono ?_
    rintro r w' ⟨h1, h2, h3⟩
    exact ⟨by rw [he]; exact h1, h2, h3⟩
  · rw [show Gr.putS b t l ps first blocks P = ps from if_neg he]
    refine (gput_err hG hv (by omega) first blocks wf wb v P hP he).mono ?_
    rintro r w' ⟨h1, h2⟩
    have := hG.lt
    exact ⟨h1, hG.blw h2, ⟨h2.os, h2.tape, h2.output, h2.size, fun k hk _ => h2.block k hk⟩⟩
theorem fl_set0 : ∀ (l : List Pt) (i : Nat) (x : Int), (fl l).set (i * 2) (.int .i64 x) = fl (l.set i (x, (l.getD i (0, 0)).2))
  | [], i, x => rfl
  | p :: l, 0, x => rfl
  | p :: l, i + 1, x => by
    rw [show (i + 1) * 2 = i * 2 + 1 + 1 by omega]
    simp only [fl, List.set_cons_succ]
    rw [fl_set0 l i x]
    rfl
theorem fl_set1 : ∀ (l : List Pt) (i : Nat) (y : Int), (fl l).set (i * 2 + 1) (.int .i64 y) = fl (l.set i ((l.getD i (0, 0)).1, y))
  | [], i, y => rfl
  | p :: l, 0, y => rfl
  | p :: l, i + 1, y => by
    rw [show (i + 1) * 2 + 1 = i * 2 + 1 + 1 + 1 by omega]
    simp only [fl, List.set_cons_succ]
    rw [fl_set1 l i y]
    rfl
theorem POwn.sto0 {w : World} {base : Nat} {e : TypeId} {v : Value} {g n cap : Nat} {xs : List Pt} (h : POwn w base e v xs) (hv : v = .slice (some ⟨g, 0, none⟩) n cap) (i : Nat) (x : Int) :
    ∃ ys : List Pt, ys.length = xs.length ∧ POwn (w.setCell ⟨g, i * 2, none⟩ (.int .i64 x)) base e v ys := by
  subst hv
  obtain rfl := h.len
  have h1 := (World.ownsRow.stored h (i * 2) (.int .i64 x)).1
  refine ⟨xs.set i (x, (xs.getD i (0, 0)).2), List.length_set, ?_⟩
  unfold POwn
  rwa [List.length_set, ← fl_set0]
theorem POwn.sto1 {w : World} {base : Nat} {e : TypeId} {v : Value} {g n cap : Nat} {xs : List Pt} (h : POwn w base e v xs) (hv : v = .slice (some ⟨g, 0, none⟩) n cap) (i : Nat) (y : Int) :
    ∃ ys : List Pt, ys.length = xs.length ∧ POwn (w.setCell ⟨g, i * 2 + 1, none⟩ (.int .i64 y)) base e v ys := by
  subst hv
  obtain rfl := h.len
  have h1 := (World.ownsRow.stored h (i * 2 + 1) (.int .i64 y)).1
  refine ⟨xs.set i ((xs.getD i (0, 0)).1, y), List.length_set, ?_⟩
  unfold POwn
  rwa [List.length_set, ← fl_set1]
end Go.Proofs.Ytighnjbcnfnpmaa

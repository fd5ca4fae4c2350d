/- A slice of points of the call's own, read only from now on. -/
import Derived.Test.YtngggknejkcepaaPtN
namespace Go.Proofs.Ytngggknejkcepaa
open Go.RowKit
set_option linter.unusedVariables false
structure PVwA (w : World) (base : Nat) (v : Value) (vs : List Pt) : Prop where
  vw : PVw w v vs
  hi : ∀ b off n c, v = .slice (some ⟨b, off, none⟩) n c → base ≤ b
theorem PVwA.fr {S : Nat → Prop} {w w' : World} {base : Nat} {v : Value} {vs : List Pt} (h : PVwA w base v vs) (hf : Fr S w w') (hs : ∀ b, base ≤ b → ¬ S b) : PVwA w' base v vs :=
  ⟨h.vw.fr hf (fun b off n c e => hs b (h.hi b off n c e)), h.hi⟩
theorem PVwA.below {B base : Nat} {w w' : World} {v : Value} {vs : List Pt} (h : PVwA w base v vs) (hf : Below B w w') (hB : w.heap.size ≤ B) : PVwA w' base v vs := ⟨h.vw.below hf hB, h.hi⟩
theorem PVwA.nil (w : World) (base c : Nat) : PVwA w base (.slice none 0 c) [] := ⟨PVw.nil _ _ _, fun _ _ _ _ h => by cases h⟩
theorem PVwA.mono {base base' : Nat} {w : World} {v : Value} {vs : List Pt} (h : PVwA w base v vs) (hb : base' ≤ base) : PVwA w base' v vs := ⟨h.vw, fun b off n c e => Nat.le_trans hb (h.hi b off n c e)⟩
theorem POwn.vwA {w : World} {base : Nat} {e : TypeId} {v : Value} {xs : List Pt} (h : POwn w base e v xs) : PVwA w base v xs :=
  ⟨h.vw, fun b off n c he => (h.block (g := b) (by subst he; rfl)).1⟩
theorem POwn.cut {w : World} {base : Nat} {e : TypeId} {v : Value} {xs : List Pt} (h : POwn w base e v xs) : ∃ a c, v = .slice a xs.length c ∧ xs.length ≤ c ∧ PVwA w base (.slice a xs.length xs.length) xs := by
  obtain ⟨a, c, rfl, hc⟩ := h.vw
  have hi := h.vwA.hi
  refine ⟨a, c, rfl, ?_, ⟨a, xs.length, rfl, hc⟩, fun b off n c' he => ?_⟩
  · rcases h.2 with ⟨h1, h2⟩ | ⟨g', cap', cur, h1, _, _, h2, _⟩
    · simp only [Value.slice.injEq] at h1; omega
    · simp only [Value.slice.injEq] at h1; omega
  · simp only [Value.slice.injEq] at he
    exact hi b off xs.length c (by rw [he.1])
end Go.Proofs.Ytngggknejkcepaa

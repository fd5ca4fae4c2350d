/- A slice of the call's own, read only from now on. -/
import Derived.Test.YtighnjbcnfnpmaaLib
import Derived.Below
namespace Go.Proofs.Ytighnjbcnfnpmaa
open Go.RowKit
set_option linter.unusedVariables false
/-- The slice reads as vs, and lies in a block from base on. -/
structure VwA (w : World) (base : Nat) (v : Value) (vs : List Value) : Prop where
  vw : Vw w v vs
  hi : ∀ b off n c, v = .slice (some ⟨b, off, none⟩) n c → base ≤ b
theorem VwA.fr {S : Nat → Prop} {w w' : World} {base : Nat} {v : Value} {vs : List Value} (h : VwA w base v vs) (hf : Fr S w w') (hs : ∀ b, base ≤ b → ¬ S b) : VwA w' base v vs :=
  ⟨h.vw.fr hf (fun b off n c e => hs b (h.hi b off n c e)), h.hi⟩
theorem VwA.below {B base : Nat} {w w' : World} {v : Value} {vs : List Value} (h : VwA w base v vs) (hf : Below B w w') (hB : w.heap.size ≤ B) : VwA w' base v vs := ⟨h.vw.below hf hB, h.hi⟩
theorem VwA.nil (w : World) (base c : Nat) : VwA w base (.slice none 0 c) [] := ⟨Vw.nil _ _ _, fun _ _ _ _ h => by cases h⟩
theorem VwA.mono {base base' : Nat} {w : World} {v : Value} {vs : List Value} (h : VwA w base v vs) (hb : base' ≤ base) : VwA w base' v vs := ⟨h.vw, fun b off n c e => Nat.le_trans hb (h.hi b off n c e)⟩
theorem OwnL.vwA {w : World} {base : Nat} {e : TypeId} {v : Value} {xs : List Value} (h : OwnL w base e v xs) : VwA w base v xs :=
  ⟨h.vw, fun b off n c he => (h.block (g := b) (by subst he; rfl)).1⟩
/-- out[:len(out):len(out)] of a slice of one's own. -/
theorem OwnL.cut {w : World} {base : Nat} {e : TypeId} {v : Value} {xs : List Value} (h : OwnL w base e v xs) : ∃ a c, v = .slice a xs.length c ∧ xs.length ≤ c ∧ VwA w base (.slice a xs.length xs.length) xs := by
  obtain ⟨a, c, rfl, hc⟩ := h.vw
  have hi := h.vwA.hi
  refine ⟨a, c, rfl, ?_, ⟨a, xs.length, rfl, hc⟩, fun b off n c' he => ?_⟩
  · rcases h.2 with ⟨h1, h2⟩ | ⟨g', cap', cur, h1, _, _, h2, _⟩
    · simp only [Value.slice.injEq] at h1; omega
    · simp only [Value.slice.injEq] at h1; omega
  · simp only [Value.slice.injEq] at he
    exact hi b off xs.length c (by rw [he.1])
end Go.Proofs.Ytighnjbcnfnpmaa

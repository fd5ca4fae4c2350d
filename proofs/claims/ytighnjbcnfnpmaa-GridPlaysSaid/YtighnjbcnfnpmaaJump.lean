/- A function whose errors leave by one label: a scope with jumps forward. -/
import Derived.Test.YtighnjbcnfnpmaaLib
import Derived.WalkMore
import Derived.ScopeJumps
namespace Go.Proofs.Ytighnjbcnfnpmaa
open Go.RowKit
section
variable {P : Program} {a : Act} {w : World} {Q : Exit → Act → World → Prop}
/-- One jump forward to the label, with a known frame. -/
theorem wp_scope_once {c rest : Code} (l : Nat) (A : Act) (W : World) (hf : findLabel c l = some rest)
    (first : c.wp P (Exit.jump l (fun a' w' => a' = A ∧ w' = W) Q) a w) (pass : rest.wp P (Exit.noGoto Q) A W) : (Code.scope c).wp P Q a w := by
  refine wp_scope_jumps l (fun a' w' => a' = A ∧ w' = W) (fun _ _ => 0) hf first ?_
  rintro a w ⟨rfl, rfl⟩
  refine wp_mono pass ?_
  intro e a' w' h
  cases e with
  | goto _ => exact h.elim
  | normal => exact h
  | exit id => exact h
  | ret => exact h
  | panic ch => exact h
  | outgrown => exact h
/-- A jump forward, in whatever world and frame. -/
theorem wp_scope_fwd {c rest : Code} (l : Nat) (J : Act → World → Prop) (hf : findLabel c l = some rest)
    (first : c.wp P (Exit.jump l J Q) a w) (pass : ∀ A W, J A W → rest.wp P (Exit.noGoto Q) A W) : (Code.scope c).wp P Q a w := by
  refine wp_scope_jumps l J (fun _ _ => 0) hf first ?_
  intro a w h
  refine wp_mono (pass a w h) ?_
  intro e a' w' h
  cases e with
  | goto _ => exact h.elim
  | normal => exact h
  | exit id => exact h
  | ret => exact h
  | panic ch => exact h
  | outgrown => exact h
end
end Go.Proofs.Ytighnjbcnfnpmaa

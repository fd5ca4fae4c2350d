/- The two shapes of a slice of numbers that can be read. -/
import Derived.Test.YtngggknejkcepaaLib
namespace Go.Proofs.Ytngggknejkcepaa
open Go.RowKit
/-- The two shapes of a slice that can be read. -/
theorem vw_split {w : World} {v : Value} {B : List Int} {k : IntKind} (h : Vw w v (B.map (Value.int k))) :
    (∃ a c, v = .slice a 0 c ∧ B = []) ∨ (∃ b off c, v = .slice (some ⟨b, off, none⟩) B.length c ∧ 0 < B.length ∧ ∀ i, i < B.length → w.cell? ⟨b, off + i, none⟩ = some (.int k (B.getD i 0))) := by
  rcases h.split with ⟨a, c, rfl, h0⟩ | ⟨b, off, c, rfl, hp, hc⟩
  · exact .inl ⟨a, c, rfl, by simpa using h0⟩
  · refine .inr ⟨b, off, c, by simp, by simpa using hp, fun i hi => ?_⟩
    rw [hc i (by simpa using hi)]
    simp [List.getD, hi]

end Go.Proofs.Ytngggknejkcepaa

/- A slice of points that came in, opened. -/
import Derived.Test.YtngggknejkcepaaPtN
import Derived.Deep.SlicePairs
import Derived.ChangeArms
import Derived.OpenShut
namespace Go.Proofs.Ytngggknejkcepaa
open Go.RowKit Go
set_option linter.unusedVariables false
def intAt : Value → Int
  | .int _ n => n
  | _ => 0
theorem open_pts {H : Type} {enc : TypeId × Value → H} {P : Program} {W : World} {base : Nat} {spare : Nat → Bool} {held : Bool} {t e : TypeId} {f0 f1 : Field} (ht : P.underlying t = some (.slice e)) (he : P.underlying e = some (.struct #[f0, f1]))
    (ce : P.cellsOf e = 2) (o0 : f0.offset = 0) (o1 : f1.offset = 1) (c0 : P.cellsOf f0.type = 1) (c1 : P.cellsOf f1.type = 1) (h0 : P.underlying f0.type = some (.int .i64)) (h1 : P.underlying f1.type = some (.int .i64))
    {a : Option Addr} {len cap fuel : Nat} {x : DataW H × List MemPlace} (h : DataW.trod enc P W base spare held fuel t [.slice a len cap] = some x) : ∃ zs : List Pt, PVw W (.slice a len cap) zs := by
  rcases Go.Deep.open_slice_pairs ht he ce o0 o1 c0 c1 h with ⟨hcs, _⟩ | ⟨ad, len', cap', m, n, V0, V1, D0, D1, P0, P1, hcs, _, hl, _, hm, _, hx⟩
  · simp only [List.cons.injEq, Value.slice.injEq, and_true] at hcs
    obtain ⟨rfl, rfl, rfl⟩ := hcs
    exact ⟨[], PVw.nil _ _ _⟩
  · simp only [List.cons.injEq, Value.slice.injEq, and_true] at hcs
    obtain ⟨rfl, rfl, rfl⟩ := hcs
    have hlm : len ≤ m := by rw [hm]; split <;> omega
    by_cases hz : len = 0
    · subst hz
      exact ⟨[], PVw.nil _ _ _⟩
    · have hv : ∀ i, i < len → W.cell? (ad.add (i * 2)) = some (.int .i64 (intAt (V0 i))) ∧ W.cell? (ad.add (i * 2 + 1)) = some (.int .i64 (intAt (V1 i))) := by
        intro i hi
        obtain ⟨e0, e1, t0, t1⟩ := hx i (by omega)
        obtain ⟨n0, q0, _, _⟩ := DataW.trod_int h0 t0
        obtain ⟨n1, q1, _, _⟩ := DataW.trod_int h1 t1
        simp only [List.cons.injEq, and_true] at q0 q1
        rw [e0, e1, q0, q1]
        exact ⟨rfl, rfl⟩
      cases ad with
      | mk b off spot =>
        cases spot with
        | none =>
          refine ⟨(List.range len).map fun i => (intAt (V0 i), intAt (V1 i)), some ⟨b, off, none⟩, cap, by simp, fun i hi => ⟨b, off, rfl, ?_⟩⟩
          have hi' : i < len := by simpa using hi
          have := hv i hi'
          rw [Addr.add_lit, Addr.add_lit] at this
          simp only [List.getElem_map, List.getElem_range]
          exact ⟨this.1, by rw [Nat.add_assoc]; exact this.2⟩
        | some s =>
          exfalso
          have h0 := (hv 0 (by omega)).1
          rw [show (⟨b, off, some s⟩ : Addr).add (0 * 2) = ⟨b, off, some s⟩ from rfl] at h0
          unfold World.cell? at h0
          simp at h0
          split at h0 <;> simp at h0
end Go.Proofs.Ytngggknejkcepaa

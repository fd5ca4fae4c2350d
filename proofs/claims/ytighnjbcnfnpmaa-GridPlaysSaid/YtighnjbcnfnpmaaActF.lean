/- A slice of acts (structs of five ints) that came in, opened. -/
import Derived.Test.YtighnjbcnfnpmaaGriR
import Derived.Deep.Slices
import Derived.ChangeArms
import Derived.OpenShut
namespace Go.Proofs.Ytighnjbcnfnpmaa
open Go.RowKit Go
set_option linter.unusedVariables false
def intAt : Value → Int
  | .int _ n => n
  | _ => 0
theorem addr_add {a : Addr} (hs : a.spot = none) (i : Nat) : a.add i = ⟨a.block, a.off + i, none⟩ := by
  cases a with
  | mk b off spot =>
    dsimp only at hs
    subst hs
    exact Addr.add_lit _ _ _
theorem open_acts {H : Type} {enc : TypeId × Value → H} {P : Program} {W : World} {base : Nat} {spare : Nat → Bool} {held : Bool} {t e : TypeId} {f0 f1 f2 f3 f4 : Field} (ht : P.underlying t = some (.slice e)) (he : P.underlying e = some (.struct #[f0, f1, f2, f3, f4]))
    (ce : P.cellsOf e = 5) (o0 : f0.offset = 0) (o1 : f1.offset = 1) (o2 : f2.offset = 2) (o3 : f3.offset = 3) (o4 : f4.offset = 4) (c0 : P.cellsOf f0.type = 1) (c1 : P.cellsOf f1.type = 1) (c2 : P.cellsOf f2.type = 1) (c3 : P.cellsOf f3.type = 1) (c4 : P.cellsOf f4.type = 1)
    (h0 : P.underlying f0.type = some (.int .i64)) (h1 : P.underlying f1.type = some (.int .i64)) (h2 : P.underlying f2.type = some (.int .i64)) (h3 : P.underlying f3.type = some (.int .i64)) (h4 : P.underlying f4.type = some (.int .i64))
    {a : Option Addr} {len cap fuel : Nat} {x : DataW H × List MemPlace} (h : DataW.trod enc P W base spare held fuel t [.slice a len cap] = some x) : ∃ A, ActsIn W (.slice a len cap) len A := by
  rcases Go.Deep.open_slice ht h with ⟨hcs, _⟩ | ⟨ad, len', cap', m, n, D, Pl, hcs, _, hl, _, hm, _, hx⟩
  · simp only [List.cons.injEq, Value.slice.injEq, and_true] at hcs
    obtain ⟨rfl, rfl, rfl⟩ := hcs
    exact ⟨fun _ _ => 0, none, 0, rfl, fun i hi => absurd hi (Nat.not_lt_zero _)⟩
  · simp only [List.cons.injEq, Value.slice.injEq, and_true] at hcs
    obtain ⟨rfl, rfl, rfl⟩ := hcs
    have hlm : len ≤ m := by rw [hm]; split <;> omega
    have each : ∀ i, i < len → ∀ j, j < 5 → ∃ q : Int, W.cell? ((ad.add (i * 5)).add j) = some (.int .i64 q) ∧ (Lit.int .i64 q).wf = true := by
      intro i hi j hj
      obtain ⟨cs', e1, e2⟩ := hx i (by omega)
      rw [ce] at e1
      obtain ⟨_, hlen, hcell⟩ := World.cells?_some e1
      obtain ⟨xs, k, _, _, _, hxl, hf⟩ := DataW.trod_struct he e2
      match xs, hxl, cs', hlen with
      | [y0, y1, y2, y3, y4], _, [v0, v1, v2, v3, v4], _ =>
        have g0 := hf 0 f0 rfl
        have g1 := hf 1 f1 rfl
        have g2 := hf 2 f2 rfl
        have g3 := hf 3 f3 rfl
        have g4 := hf 4 f4 rfl
        simp [o0, o1, o2, o3, o4, c0, c1, c2, c3, c4] at g0 g1 g2 g3 g4
        obtain ⟨n0, q0, _, w0⟩ := DataW.trod_int h0 g0
        obtain ⟨n1, q1, _, w1⟩ := DataW.trod_int h1 g1
        obtain ⟨n2, q2, _, w2⟩ := DataW.trod_int h2 g2
        obtain ⟨n3, q3, _, w3⟩ := DataW.trod_int h3 g3
        obtain ⟨n4, q4, _, w4⟩ := DataW.trod_int h4 g4
        simp only [List.cons.injEq, and_true] at q0 q1 q2 q3 q4
        subst q0 q1 q2 q3 q4
        have hc := hcell j hj
        match j, hj with
        | 0, _ => exact ⟨n0, by simpa using hc, w0⟩
        | 1, _ => exact ⟨n1, by simpa using hc, w1⟩
        | 2, _ => exact ⟨n2, by simpa using hc, w2⟩
        | 3, _ => exact ⟨n3, by simpa using hc, w3⟩
        | 4, _ => exact ⟨n4, by simpa using hc, w4⟩
    by_cases hz : len = 0
    · subst hz
      exact ⟨fun _ _ => 0, some ad, cap, rfl, fun i hi => absurd hi (Nat.not_lt_zero _)⟩
    have hsp : ad.spot = none := by
      obtain ⟨q, hq, _⟩ := each 0 (by omega) 0 (by omega)
      cases ad with
      | mk b off spot =>
        cases spot with
        | none => rfl
        | some s =>
          exfalso
          rw [show ((⟨b, off, some s⟩ : Addr).add (0 * 5)).add 0 = ⟨b, off, some s⟩ from rfl] at hq
          unfold World.cell? at hq
          simp at hq
          split at hq <;> simp at hq
    have hcl : ∀ i, i < len → ∀ j, j < 5 → ∃ q : Int, W.cell? ⟨ad.block, ad.off + i * 5 + j, none⟩ = some (.int .i64 q) ∧ (Lit.int .i64 q).wf = true := by
      intro i hi j hj
      have := each i hi j hj
      rw [addr_add hsp, Addr.add_lit] at this
      exact this
    refine ⟨fun i j => intAt ((W.cell? ⟨ad.block, ad.off + i * 5 + j, none⟩).getD undef), some ad, cap, rfl, fun i hi => ⟨ad.block, ad.off, ?_, fun j hj => ?_⟩⟩
    · cases ad with
      | mk b off spot =>
        dsimp only at hsp
        rw [hsp]
    · obtain ⟨q, e1, e2⟩ := hcl i hi j hj
      have e3 : intAt ((W.cell? ⟨ad.block, ad.off + i * 5 + j, none⟩).getD undef) = q := by rw [e1]; rfl
      show W.cell? ⟨ad.block, ad.off + i * 5 + j, none⟩ = some (.int .i64 (intAt ((W.cell? ⟨ad.block, ad.off + i * 5 + j, none⟩).getD undef))) ∧ (Lit.int .i64 (intAt ((W.cell? ⟨ad.block, ad.off + i * 5 + j, none⟩).getD undef))).wf = true
      rw [e3]
      exact ⟨e1, e2⟩
end Go.Proofs.Ytighnjbcnfnpmaa

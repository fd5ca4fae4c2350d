/- Rate dematching: the buffer, as a list; no program. -/
import Derived.Test.YtpnmfnjpbhjddaaQ1
namespace Go.Proofs.Ytpnmfnjpbhjddaa
namespace De
def freshN (k : Nat) : Nat → List Int
  | 0 => List.replicate (3 * (k + 4)) 0
  | i + 1 => ((freshN k i).set i 127).set (k + 4 + i) 127
theorem freshN_len (k : Nat) : ∀ i, (freshN k i).length = 3 * (k + 4)
  | 0 => by simp [freshN]
  | i + 1 => by simp [freshN, freshN_len k i]
/-- What is stored when the first n of the values have been added. -/
def comb (V a l : List Int) : Nat → List Int
  | 0 => V
  | n + 1 => (comb V a l n).set (a.getD n 0).toNat (Soft.add ((comb V a l n).getD (a.getD n 0).toNat 0) (l.getD n 0))
theorem comb_len (V a l : List Int) : ∀ n, (comb V a l n).length = V.length
  | 0 => rfl
  | n + 1 => by simp [comb, comb_len V a l n]
def nz (V : List Int) (i : Nat) : Bool := V.getD i 0 != 0
/-- The number of known positions. -/
def known (V : List Int) : Nat := (Gr.sel (nz V) V.length).length
theorem known_un (V : List Int) : ∀ n, (Gr.sel (nz V) n).length + Soft.unknownN V n = n
  | 0 => by simp [Gr.sel, Soft.unknownN]
  | n + 1 => by
    have ih := known_un V n
    unfold Soft.unknownN
    cases h : nz V n with
    | true =>
      have h0 : V.getD n 0 ≠ 0 := by simpa [nz] using h
      rw [Gr.sel_yes h, List.length_append, if_neg h0]; simp; omega
    | false =>
      have h0 : V.getD n 0 = 0 := by simpa [nz] using h
      rw [Gr.sel_no h, if_pos h0]; omega
end De
end Go.Proofs.Ytpnmfnjpbhjddaa

/- The resource grid's points, plain; no program. -/
import Derived.Test.YtighnjbcnfnpmaaGri9
namespace Go.Proofs.Ytighnjbcnfnpmaa
namespace Gr
/-- What stands after k stores. -/
def putN (P : List (Int × Int)) (l : List Int) (q : Nat → Int × Int) : Nat → List (Int × Int)
  | 0 => P
  | k + 1 => (putN P l q k).set (l.getD k 0).toNat (q k)
theorem putN_len (P : List (Int × Int)) (l : List Int) (q : Nat → Int × Int) : ∀ k, (putN P l q k).length = P.length
  | 0 => rfl
  | k + 1 => by simp [putN, putN_len P l q k]
/-- A new grid's points. -/
def newP (b t l : Int) : List (Int × Int) := putN (List.replicate (168 * b).toNat (0, 0)) (refL b t l) (fun _ => (1, 1)) (refL b t l).length
theorem newP_len (b t l : Int) : (newP b t l).length = (168 * b).toNat := by unfold newP; rw [putN_len, List.length_replicate]
/-- The points after Put, and its error. -/
def putP (b t l : Int) (P : List (Int × Int)) (first blocks : Int) (q : List (Int × Int)) : List (Int × Int) :=
  if (datL b t l first blocks).length < q.length then P else putN P (datL b t l first blocks) (fun i => q.getD i (0, 0)) q.length
def putE (b t l first blocks : Int) (n : Nat) : Int := if datOk b t l first blocks = true then (if (datL b t l first blocks).length < n then 4 else 0) else 2
/-- What Get returns. -/
def getP (P : List (Int × Int)) (l : List Int) : List (Int × Int) := l.map fun i => P.getD i.toNat (0, 0)
theorem getP_len (P : List (Int × Int)) (l : List Int) : (getP P l).length = l.length := by simp [getP]
theorem sel_get {p : Nat → Bool} {n i : Nat} (h : i < (sel p n).length) : ∃ j : Nat, (sel p n).getD i 0 = (j : Int) ∧ j < n ∧ p j = true := by
  have : (sel p n).getD i 0 = (sel p n)[i] := by simp [List.getD, h]
  rw [this]
  exact sel_mem (List.getElem_mem h)
theorem dat_get (b t l first blocks : Int) : ∀ i, i < (datL b t l first blocks).length → ∃ j : Nat, (datL b t l first blocks).getD i 0 = (j : Int) ∧ j < (168 * b).toNat := by
  intro i hi
  unfold datL at hi ⊢
  split at hi
  · rename_i h
    rw [if_pos h]
    obtain ⟨j, h1, h2, _⟩ := sel_get hi
    exact ⟨j, h1, h2⟩
  · simp at hi
theorem dat_len (b t l first blocks : Int) : (datL b t l first blocks).length ≤ (168 * b).toNat := by
  unfold datL
  split
  · exact sel_len _ _
  · simp
theorem getP_take_succ (P : List (Int × Int)) (l : List Int) (k : Nat) (h : k < l.length) : getP P (l.take (k + 1)) = getP P (l.take k) ++ [P.getD (l.getD k 0).toNat (0, 0)] := by
  rw [List.take_succ_eq_append_getElem h, getP, List.map_append]
  simp [getP, List.getD, h]
end Gr
end Go.Proofs.Ytighnjbcnfnpmaa

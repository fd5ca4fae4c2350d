/- The selection of a redundancy version, as lists; no program. -/
import Derived.Test.YtloldjmibjkkkaaRmF
namespace Go.Proofs.Ytloldjmibjkkkaa
namespace Rm
/-- The usable elements among the first n that a round from i on comes to. -/
def selL (L : List Int) (i : Nat) : Nat → List Int
  | 0 => []
  | n + 1 => selL L i n ++ (if us (at_ L i n) = true then [at_ L i n] else [])
theorem selL_yes {L : List Int} {i n : Nat} (h : us (at_ L i n) = true) : selL L i (n + 1) = selL L i n ++ [at_ L i n] := by rw [selL, if_pos h]
theorem selL_no {L : List Int} {i n : Nat} (h : us (at_ L i n) = false) : selL L i (n + 1) = selL L i n := by rw [selL, if_neg (by simp [h]), List.append_nil]
theorem selL_pre (L : List Int) (i : Nat) : ∀ (n m : Nat), ∃ r, selL L i (n + m) = selL L i n ++ r
  | n, 0 => ⟨[], by simp⟩
  | n, m + 1 => by
    obtain ⟨r, hr⟩ := selL_pre L i n m
    exact ⟨r ++ (if us (at_ L i (n + m)) = true then [at_ L i (n + m)] else []), by rw [← Nat.add_assoc, selL, hr, List.append_assoc]⟩
theorem selL_mono (L : List Int) (i : Nat) {n m : Nat} (h : n ≤ m) : (selL L i n).length ≤ (selL L i m).length := by
  obtain ⟨r, hr⟩ := selL_pre L i n (m - n)
  rw [show n + (m - n) = m by omega] at hr
  rw [hr, List.length_append]; omega
/-- In each round of the whole buffer one element at least is usable. -/
theorem selL_round {L : List Int} {i : Nat} (hu : ∃ j, j < L.length ∧ us (L.getD j 0) = true) (n : Nat) : (selL L i n).length + 1 ≤ (selL L i (n + L.length)).length := by
  obtain ⟨j, hj, hu⟩ := hu
  have hpos : 0 < L.length := by omega
  -- the step at which j is met
  obtain ⟨t, ht, hm⟩ : ∃ t, t < L.length ∧ (i + (n + t)) % L.length = j := by
    have hlt := Nat.mod_lt (i + n) hpos
    by_cases h : (i + n) % L.length ≤ j
    · refine ⟨j - (i + n) % L.length, by omega, ?_⟩
      rw [← Nat.add_assoc, Nat.add_mod, Nat.mod_eq_of_lt (show j - (i + n) % L.length < L.length by omega), show (i + n) % L.length + (j - (i + n) % L.length) = j by omega, Nat.mod_eq_of_lt hj]
    · refine ⟨j + L.length - (i + n) % L.length, by omega, ?_⟩
      rw [← Nat.add_assoc, Nat.add_mod, Nat.mod_eq_of_lt (show j + L.length - (i + n) % L.length < L.length by omega), show (i + n) % L.length + (j + L.length - (i + n) % L.length) = j + L.length by omega, Nat.add_mod_right, Nat.mod_eq_of_lt hj]
  have h1 : us (at_ L i (n + t)) = true := by rw [at_, hm]; exact hu
  have h2 := selL_yes h1
  have h3 := selL_mono L i (show n ≤ n + t by omega)
  have h4 := selL_mono L i (show n + t + 1 ≤ n + L.length by omega)
  rw [h2, List.length_append, List.length_singleton] at h4
  omega
theorem selL_many {L : List Int} {i : Nat} (hu : ∃ j, j < L.length ∧ us (L.getD j 0) = true) : ∀ e, e ≤ (selL L i (e * L.length)).length
  | 0 => Nat.zero_le _
  | e + 1 => by
    have h1 := selL_many (i := i) hu e
    have h2 := selL_round (i := i) hu (e * L.length)
    rw [Nat.add_mul, Nat.one_mul]; omega
/-- The first e usable elements. -/
def posL (L : List Int) (i e : Nat) : List Int := (selL L i (e * L.length)).take e
theorem posL_of {L : List Int} {i n e : Nat} (hu : ∃ j, j < L.length ∧ us (L.getD j 0) = true) (h : (selL L i n).length = e) : selL L i n = posL L i e := by
  have hm := selL_many (i := i) hu e
  unfold posL
  rcases Nat.le_total n (e * L.length) with hle | hle
  · obtain ⟨r, hr⟩ := selL_pre L i n (e * L.length - n)
    rw [show n + (e * L.length - n) = e * L.length by omega] at hr
    rw [hr, ← h, List.take_left]
  · obtain ⟨r, hr⟩ := selL_pre L i (e * L.length) (n - e * L.length)
    rw [show e * L.length + (n - e * L.length) = n by omega] at hr
    have hl := congrArg List.length hr
    rw [List.length_append] at hl
    have hr0 : r = [] := List.eq_nil_of_length_eq_zero (by omega)
    rw [hr, hr0, List.append_nil, List.take_of_length_le (by omega)]
theorem posL_len {L : List Int} {i e : Nat} (hu : ∃ j, j < L.length ∧ us (L.getD j 0) = true) : (posL L i e).length = e := by
  have := selL_many (i := i) hu e
  unfold posL; rw [List.length_take]; omega
theorem cnt_zero {L : List Int} : ∀ {n : Nat}, cnt L n = 0 ↔ ∀ j, j < n → us (L.getD j 0) = false
  | 0 => by simp [cnt]
  | n + 1 => by
    have ih := cnt_zero (L := L) (n := n)
    unfold cnt
    constructor
    · intro h j hj
      have h0 : cnt L n = 0 := by omega
      rcases Nat.lt_or_ge j n with h1 | h1
      · exact ih.1 h0 j h1
      · obtain rfl : j = n := by omega
        cases hu : us (L.getD j 0) with
        | false => rfl
        | true => rw [if_pos hu] at h; omega
    · intro h
      rw [ih.2 fun j hj => h j (by omega), h n (by omega)]; simp
theorem cnt_pos {L : List Int} (h : cnt L L.length ≠ 0) : ∃ j, j < L.length ∧ us (L.getD j 0) = true := by
  rcases Classical.em (∃ j, j < L.length ∧ us (L.getD j 0) = true) with h' | h'
  · exact h'
  · refine absurd (cnt_zero.2 fun j hj => ?_) h
    cases hu : us (L.getD j 0) with
    | false => rfl
    | true => exact absurd ⟨j, hj, hu⟩ h'
def anyU (L : List Int) : Bool := (List.range L.length).any fun i => us (L.getD i 0)
theorem anyU_eq (L : List Int) : anyU L = decide (cnt L L.length ≠ 0) := by
  rw [Bool.eq_iff_iff, decide_eq_true_eq, anyU, List.any_eq_true]
  constructor
  · rintro ⟨j, hj, hu⟩ h
    have := cnt_zero.1 h j (List.mem_range.1 hj)
    rw [this] at hu; cases hu
  · intro h
    obtain ⟨j, hj, hu⟩ := cnt_pos h
    exact ⟨j, List.mem_range.2 hj, hu⟩
/-- What Positions returns. -/
def posR (k f limit rv e : Int) : List Int × Int :=
  if valid k f limit = true ∧ 0 ≤ rv ∧ rv ≤ 3 ∧ 0 ≤ e ∧ e ≤ 131072 then
    (if e = 0 then ([], 0) else if cnt (buf k.toNat f.toNat (rows k.toNat) (size k.toNat limit)) (size k.toNat limit) = 0 then ([], 10)
      else (posL (buf k.toNat f.toNat (rows k.toNat) (size k.toNat limit)) (start (rows k.toNat) (size k.toNat limit) rv.toNat) e.toNat, 0))
  else ([], 2)
theorem start_lt {R n rv : Nat} (h : 1 ≤ n) : start R n rv < n := Nat.mod_lt _ (by omega)
end Rm
end Go.Proofs.Ytloldjmibjkkkaa

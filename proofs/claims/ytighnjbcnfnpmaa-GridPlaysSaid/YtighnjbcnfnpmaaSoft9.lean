/- Soft values, as lists; no program. -/
import Derived.Lib.Hide
import Derived.WalkKit
namespace Go.Proofs.Ytighnjbcnfnpmaa
namespace Soft
/-- The nearest soft value. -/
def clamp (v : Int) : Int := if 127 < v then 127 else if v < -127 then -127 else v
theorem clamp_lo (v : Int) : -127 ≤ clamp v := by unfold clamp; split <;> (try split) <;> omega
theorem clamp_hi (v : Int) : clamp v ≤ 127 := by unfold clamp; split <;> (try split) <;> omega
theorem clamp_id {v : Int} (h1 : -127 ≤ v) (h2 : v ≤ 127) : clamp v = v := by unfold clamp; rw [if_neg (by omega), if_neg (by omega)]
theorem clamp_big {v : Int} (h1 : 127 < v) : clamp v = 127 := by unfold clamp; rw [if_pos h1]
theorem clamp_small {v : Int} (h1 : v < -127) : clamp v = -127 := by unfold clamp; rw [if_neg (by omega), if_pos h1]
def add (a b : Int) : Int := clamp (clamp a + clamp b)
/-- No soft value. -/
def inv (v : Int) : Bool := (clamp v != v)
theorem inv_true {v : Int} (h : inv v = true) : 127 < v ∨ v < -127 := by
  by_cases h1 : 127 < v
  · exact .inl h1
  · by_cases h2 : v < -127
    · exact .inr h2
    · rw [inv, clamp_id (by omega) (by omega)] at h; simp at h
theorem inv_of {v : Int} (h : 127 < v ∨ v < -127) : inv v = true := by
  rcases h with h | h
  · rw [inv, clamp_big h]; simp; omega
  · rw [inv, clamp_small h]; simp; omega
theorem inv_false {v : Int} (h : inv v = false) : -127 ≤ v ∧ v ≤ 127 := by
  by_cases h1 : 127 < v
  · rw [inv_of (.inl h1)] at h; cases h
  · by_cases h2 : v < -127
    · rw [inv_of (.inr h2)] at h; cases h
    · omega
theorem inv_in {v : Int} (h1 : -127 ≤ v) (h2 : v ≤ 127) : inv v = false := by rw [inv, clamp_id h1 h2]; simp
def bad (l : List Int) : Bool := l.any inv
theorem bad_eq (B : List Int) : ((List.range B.length).any fun i => inv (B.getD i 0)) = bad B := by
  rw [Bool.eq_iff_iff]
  simp only [bad, List.any_eq_true, List.mem_range]
  constructor
  · rintro ⟨i, hi, h⟩
    exact ⟨B[i], List.getElem_mem hi, by simpa [List.getD, hi] using h⟩
  · rintro ⟨b, hb, h⟩
    obtain ⟨i, hi, rfl⟩ := List.getElem_of_mem hb
    exact ⟨i, hi, by simpa [List.getD, hi] using h⟩
theorem bad_at {B : List Int} (h : bad B = false) {i : Nat} (hi : i < B.length) : inv (B.getD i 0) = false := by
  have := List.any_eq_false.1 h B[i] (List.getElem_mem hi)
  simpa [List.getD, hi] using this
theorem bad_of {B : List Int} {i : Nat} (hi : i < B.length) (h : inv (B.getD i 0) = true) : bad B = true := by
  refine List.any_eq_true.2 ⟨B[i], List.getElem_mem hi, ?_⟩
  simpa [List.getD, hi] using h
theorem bad_no {B : List Int} (h : ∀ i, i < B.length → inv (B.getD i 0) = false) : bad B = false := by
  rw [bad, List.any_eq_false]
  intro x hx
  obtain ⟨i, hi, rfl⟩ := List.getElem_of_mem hx
  have := h i hi
  simpa [List.getD, hi] using this
/-- No bit. -/
def binv (x : Int) : Bool := decide (1 < x)
def bbad (B : List Int) : Bool := B.any binv
theorem bbad_eq (B : List Int) : ((List.range B.length).any fun i => binv (B.getD i 0)) = bbad B := by
  rw [Bool.eq_iff_iff]
  simp only [bbad, List.any_eq_true, List.mem_range]
  constructor
  · rintro ⟨i, hi, h⟩
    exact ⟨B[i], List.getElem_mem hi, by simpa [List.getD, hi] using h⟩
  · rintro ⟨b, hb, h⟩
    obtain ⟨i, hi, rfl⟩ := List.getElem_of_mem hb
    exact ⟨i, hi, by simpa [List.getD, hi] using h⟩
theorem bbad_at {B : List Int} (h : bbad B = false) {i : Nat} (hi : i < B.length) : binv (B.getD i 0) = false := by
  have := List.any_eq_false.1 h B[i] (List.getElem_mem hi)
  simpa [List.getD, hi] using this
theorem bbad_of {B : List Int} {i : Nat} (hi : i < B.length) (h : binv (B.getD i 0) = true) : bbad B = true := by
  refine List.any_eq_true.2 ⟨B[i], List.getElem_mem hi, ?_⟩
  simpa [List.getD, hi] using h
theorem bbad_no {B : List Int} (h : ∀ i, i < B.length → binv (B.getD i 0) = false) : bbad B = false := by
  rw [bbad, List.any_eq_false]
  intro x hx
  obtain ⟨i, hi, rfl⟩ := List.getElem_of_mem hx
  have := h i hi
  simpa [List.getD, hi] using this
/-- The first n values of a function. -/
def tab (g : Nat → Int) (n : Nat) : List Int := (List.range n).map g
theorem tab_succ (g : Nat → Int) (n : Nat) : tab g (n + 1) = tab g n ++ [g n] := by simp [tab, List.range_succ]
theorem tab_len (g : Nat → Int) (n : Nat) : (tab g n).length = n := by simp [tab]
theorem tab_zero (g : Nat → Int) : tab g 0 = [] := rfl
theorem tab_at (g : Nat → Int) {n k : Nat} (h : k < n) : (tab g n).getD k 0 = g k := by simp [tab, List.getD, h]
theorem tab_congr {f g : Nat → Int} {n : Nat} (h : ∀ k, k < n → f k = g k) : tab f n = tab g n := by
  unfold tab
  exact List.map_congr_left fun k hk => h k (List.mem_range.1 hk)
def sumG (A B : List Int) (k : Nat) : Int := add (A.getD k 0) (B.getD k 0)
def sumR (A B : List Int) : List Int × Int := if bad A = true ∨ bad B = true ∨ A.length ≠ B.length then ([], 2) else (tab (sumG A B) A.length, 0)
def sclG (A : List Int) (p q : Int) (k : Nat) : Int := clamp ((A.getD k 0 * p).tdiv q)
def sclR (A : List Int) (p q : Int) : List Int × Int := if bad A = true ∨ p < 0 ∨ 1073741824 < p ∨ q < 1 ∨ 1073741824 < q then ([], 2) else (tab (sclG A p q) A.length, 0)
def sgn (v : Int) : Int := if v < 0 then 1 else 0
def hardG (A : List Int) (k : Nat) : Int := sgn (A.getD k 0)
def hardR (A : List Int) : List Int × Int := if bad A = true then ([], 2) else (tab (hardG A) A.length, 0)
def idlG (B : List Int) (m : Int) (k : Nat) : Int := if B.getD k 0 = 1 then -m else m
def idlR (B : List Int) (m : Int) : List Int × Int := if m < 0 ∨ 127 < m then ([], 2) else if bbad B = true then ([], 3) else (tab (idlG B m) B.length, 0)
/-- Wrong and unknown elements among the first n. -/
def wrongN (A B : List Int) : Nat → Nat
  | 0 => 0
  | k + 1 => wrongN A B k + (if A.getD k 0 = 0 then 0 else if sgn (A.getD k 0) = B.getD k 0 then 0 else 1)
def unknownN (A : List Int) : Nat → Nat
  | 0 => 0
  | k + 1 => unknownN A k + (if A.getD k 0 = 0 then 1 else 0)
theorem wrongN_le (A B : List Int) : ∀ n, wrongN A B n ≤ n
  | 0 => Nat.le_refl _
  | n + 1 => by
    have := wrongN_le A B n
    unfold wrongN
    split
    · omega
    · split <;> omega
theorem unknownN_le (A : List Int) : ∀ n, unknownN A n ≤ n
  | 0 => Nat.le_refl _
  | n + 1 => by
    have := unknownN_le A n
    unfold unknownN
    split <;> omega
def cmpR (A B : List Int) : Nat × Nat × Int := if bad A = true ∨ A.length ≠ B.length then (0, 0, 2) else if bbad B = true then (0, 0, 3) else (wrongN A B A.length, unknownN A A.length, 0)
def mag (v : Int) : Int := if v < 0 then -v else v
/-- The least reliable of the first n elements. -/
def leastN (A : List Int) : Nat → Nat
  | 0 => 0
  | k + 1 => if mag (A.getD k 0) < mag (A.getD (leastN A k) 0) then k else leastN A k
theorem leastN_lt (A : List Int) : ∀ n m, n ≤ m → 0 < m → leastN A n < m
  | 0, m, _, h => h
  | n + 1, m, h1, h2 => by
    have := leastN_lt A n m (by omega) h2
    unfold leastN
    split <;> omega
def leastR (A : List Int) : Nat × Int := if bad A = true ∨ A.length = 0 then (0, 2) else (leastN A A.length, 0)
end Soft
end Go.Proofs.Ytighnjbcnfnpmaa

/- Laws of saturating sums and ideal soft values, as numbers and lists; no program. -/
import Derived.Test.YtmbjcpppbgapbaaSoft9
namespace Go.Proofs.Ytmbjcpppbgapbaa
namespace Soft
theorem clamp_mm (v : Int) : clamp v = max (-127) (min v 127) := by unfold clamp; split <;> (try split) <;> omega
theorem add_comm (a b : Int) : add a b = add b a := by unfold add; rw [Int.add_comm]
theorem add_mono {a c : Int} (b : Int) (h : a ≤ c) : add a b ≤ add c b := by
  simp only [add, clamp_mm]; omega
theorem add_zero (a : Int) : add (clamp a) 0 = clamp a := by
  simp only [add, clamp_mm]; omega
theorem add_lo (a b : Int) : -127 ≤ add a b := clamp_lo _
theorem add_hi (a b : Int) : add a b ≤ 127 := clamp_hi _
theorem add_assoc_pos {a b c : Int} (h1 : 0 ≤ a) (h2 : 0 ≤ b) (h3 : 0 ≤ c) : add (add a b) c = add a (add b c) := by
  simp only [add, clamp_mm]; omega
theorem add_assoc_neg {a b c : Int} (h1 : a ≤ 0) (h2 : b ≤ 0) (h3 : c ≤ 0) : add (add a b) c = add a (add b c) := by
  simp only [add, clamp_mm]; omega
theorem tab_inv {g : Nat → Int} {n : Nat} (h : ∀ k, k < n → inv (g k) = false) : bad (tab g n) = false :=
  bad_no fun i hi => by rw [tab_len] at hi; rw [tab_at g hi]; exact h i hi
theorem idl_inv (B : List Int) {m : Int} (h1 : 0 ≤ m) (h2 : m ≤ 127) (k : Nat) : inv (idlG B m k) = false := by
  unfold idlG; split <;> exact inv_in (by omega) (by omega)
theorem getD_ext {A B : List Int} (hl : A.length = B.length) (h : ∀ i, i < A.length → A.getD i 0 = B.getD i 0) : A = B := by
  apply List.ext_getElem hl
  intro i h1 h2
  have := h i h1
  simpa [List.getD, h1, h2] using this
theorem idlG_0 {B : List Int} {m : Int} {k : Nat} (h : B.getD k 0 = 0) : idlG B m k = m := by rw [idlG, h, if_neg (by decide)]
theorem idlG_1 {B : List Int} {m : Int} {k : Nat} (h : B.getD k 0 = 1) : idlG B m k = -m := by rw [idlG, h, if_pos rfl]
theorem sgn_0 {v : Int} (h : 0 ≤ v) : sgn v = 0 := by rw [sgn, if_neg (by omega)]
theorem sgn_1 {v : Int} (h : v < 0) : sgn v = 1 := by rw [sgn, if_pos h]
theorem hard_ideal {B : List Int} {m : Int} (h1 : 1 ≤ m) (h2 : m ≤ 127) (hb : ∀ i, i < B.length → B.getD i 0 = 0 ∨ B.getD i 0 = 1) : hardR (tab (idlG B m) B.length) = (B, 0) := by
  rw [hardR, if_neg (by rw [tab_inv (fun k _ => idl_inv B (by omega) h2 k)]; simp)]
  congr 1
  rw [tab_len]
  refine getD_ext (by rw [tab_len]) fun i hi => ?_
  rw [tab_len] at hi
  rw [tab_at _ hi, hardG, tab_at _ hi]
  rcases hb i hi with h | h
  · rw [idlG_0 h, h, sgn_0 (by omega)]
  · rw [idlG_1 h, h, sgn_1 (by omega)]
theorem wrong_ideal {B : List Int} {m : Int} (h1 : 1 ≤ m) (hb : ∀ i, i < B.length → B.getD i 0 = 0 ∨ B.getD i 0 = 1) : ∀ n, n ≤ B.length → wrongN (tab (idlG B m) B.length) B n = 0 ∧ unknownN (tab (idlG B m) B.length) n = 0
  | 0, _ => ⟨rfl, rfl⟩
  | n + 1, h => by
    have ih := wrong_ideal h1 hb n (by omega)
    have e := tab_at (idlG B m) (show n < B.length by omega)
    unfold wrongN unknownN
    rw [ih.1, ih.2, e]
    rcases hb n (by omega) with h | h
    · have hm : ¬ m = 0 := by omega
      rw [idlG_0 h, h, sgn_0 (by omega), if_neg hm, if_neg hm, if_pos rfl]; exact ⟨rfl, rfl⟩
    · have hm : ¬ -m = 0 := by omega
      rw [idlG_1 h, h, sgn_1 (by omega), if_neg hm, if_neg hm, if_pos rfl]; exact ⟨rfl, rfl⟩
theorem step_0 {x m : Int} (h1 : 1 ≤ m) (h2 : m ≤ 127) (hx : -127 ≤ x ∧ x ≤ 127) : (if add x m = 0 then 0 else if sgn (add x m) = 0 then 0 else 1) ≤ (if x = 0 then 0 else if sgn x = 0 then 0 else 1 : Nat) := by
  have hs : add x m = max (-127) (min (x + m) 127) := by simp only [add, clamp_mm]; omega
  rw [hs]
  by_cases h0 : 0 ≤ x
  · rw [sgn_0 (v := max (-127) (min (x + m) 127)) (by omega)]; simp
  · rw [if_neg (show ¬ x = 0 by omega), sgn_1 (v := x) (by omega), if_neg (show ¬ (1 : Int) = 0 by omega)]
    split
    · omega
    · split <;> omega
theorem step_1 {x m : Int} (h1 : 1 ≤ m) (h2 : m ≤ 127) (hx : -127 ≤ x ∧ x ≤ 127) : (if add x (-m) = 0 then 0 else if sgn (add x (-m)) = 1 then 0 else 1) ≤ (if x = 0 then 0 else if sgn x = 1 then 0 else 1 : Nat) := by
  have hs : add x (-m) = max (-127) (min (x - m) 127) := by simp only [add, clamp_mm]; omega
  rw [hs]
  by_cases h0 : x ≤ 0
  · rw [sgn_1 (v := max (-127) (min (x - m) 127)) (by omega)]; simp
  · rw [if_neg (show ¬ x = 0 by omega), sgn_0 (v := x) (by omega), if_neg (show ¬ (0 : Int) = 1 by omega)]
    split
    · omega
    · split <;> omega
theorem cmp_ideal {B : List Int} {m : Int} (h1 : 1 ≤ m) (h2 : m ≤ 127) (hbb : bbad B = false) (hb : ∀ i, i < B.length → B.getD i 0 = 0 ∨ B.getD i 0 = 1) : cmpR (tab (idlG B m) B.length) B = (0, 0, 0) := by
  rw [cmpR, if_neg (by rw [tab_inv (fun k _ => idl_inv B (by omega) h2 k), tab_len]; simp), if_neg (by simp [hbb]), tab_len]
  have := wrong_ideal h1 hb B.length (Nat.le_refl _)
  rw [this.1, this.2]
theorem add_inv (a b : Int) : inv (add a b) = false := inv_in (add_lo _ _) (add_hi _ _)
theorem wrong_sum {A B : List Int} {m : Int} (h1 : 1 ≤ m) (h2 : m ≤ 127) (hA : bad A = false) (hl : A.length = B.length) (hb : ∀ i, i < B.length → B.getD i 0 = 0 ∨ B.getD i 0 = 1) :
    ∀ n, n ≤ A.length → wrongN (tab (sumG A (tab (idlG B m) B.length)) A.length) B n ≤ wrongN A B n
  | 0, _ => Nat.le_refl _
  | n + 1, h => by
    have ih := wrong_sum h1 h2 hA hl hb n (by omega)
    have e1 := tab_at (sumG A (tab (idlG B m) B.length)) (show n < A.length by omega)
    have e2 := tab_at (idlG B m) (show n < B.length by omega)
    have hx := inv_false (bad_at hA (show n < A.length by omega))
    unfold wrongN
    rw [e1, sumG, e2]
    generalize A.getD n 0 = x at hx ⊢
    refine Nat.add_le_add ih ?_
    rcases hb n (by omega) with h | h
    · rw [idlG_0 h, h]; exact step_0 h1 h2 hx
    · rw [idlG_1 h, h]; exact step_1 h1 h2 hx
theorem sum_ideal {A B : List Int} {m : Int} (h1 : 1 ≤ m) (h2 : m ≤ 127) (hA : bad A = false) (hl : A.length = B.length) : sumR A (tab (idlG B m) B.length) = (tab (sumG A (tab (idlG B m) B.length)) A.length, 0) := by
  rw [sumR, if_neg]
  rw [hA, tab_inv (fun k _ => idl_inv B (by omega) h2 k), tab_len]; simp [hl]
theorem cmp_sum {A B : List Int} {m : Int} (h1 : 1 ≤ m) (h2 : m ≤ 127) (hA : bad A = false) (hl : A.length = B.length) (hbb : bbad B = false) (hb : ∀ i, i < B.length → B.getD i 0 = 0 ∨ B.getD i 0 = 1) :
    ∃ p q p' q', cmpR (tab (sumG A (tab (idlG B m) B.length)) A.length) B = (p, q, 0) ∧ cmpR A B = (p', q', 0) ∧ p ≤ p' := by
  refine ⟨_, unknownN (tab (sumG A (tab (idlG B m) B.length)) A.length) A.length, _, unknownN A A.length, ?_, ?_, wrong_sum h1 h2 hA hl hb A.length (Nat.le_refl _)⟩
  · rw [cmpR, if_neg (by rw [tab_inv (g := sumG A (tab (idlG B m) B.length)) (fun k _ => add_inv _ _), tab_len]; simp [hl]), if_neg (by simp [hbb]), tab_len]
  · rw [cmpR, if_neg (by simp [hA, hl]), if_neg (by simp [hbb])]
end Soft
end Go.Proofs.Ytmbjcpppbgapbaa

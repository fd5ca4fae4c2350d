/- The two shift registers of a scrambling sequence; no program. -/
import Derived.Laws.BitsAllLaws
namespace Go.Proofs.Ytmiaddcjedjjdaa
namespace Reg
def n1 (x : Nat) : Nat := (x >>> 1) ||| ((((x >>> 3) ^^^ x) &&& 1) <<< 30)
def n2 (x : Nat) : Nat := (x >>> 1) ||| ((((((x >>> 3) ^^^ (x >>> 2)) ^^^ (x >>> 1)) ^^^ x) &&& 1) <<< 30)
def out (x y : Nat) : Nat := (x ^^^ y) &&& 1
def b1 (n : Nat) : Nat := Nat.repeat n1 n 1
def b2 (i n : Nat) : Nat := Nat.repeat n2 n i
theorem b1_succ (n : Nat) : b1 (n + 1) = n1 (b1 n) := rfl
theorem b2_succ (i n : Nat) : b2 i (n + 1) = n2 (b2 i n) := rfl
theorem and1_lt (x : Nat) : x &&& 1 < 2 := by rw [Nat.and_one_is_mod]; omega
theorem n1_lt {x : Nat} (h : x < 2147483648) : n1 x < 2147483648 := by
  unfold n1
  refine Nat.or_lt_two_pow (n := 31) ?_ ?_
  · rw [Nat.shiftRight_eq_div_pow]; omega
  · have := and1_lt ((x >>> 3) ^^^ x)
    rw [Nat.shiftLeft_eq]; omega
theorem n2_lt {x : Nat} (h : x < 2147483648) : n2 x < 2147483648 := by
  unfold n2
  refine Nat.or_lt_two_pow (n := 31) ?_ ?_
  · rw [Nat.shiftRight_eq_div_pow]; omega
  · have := and1_lt ((((x >>> 3) ^^^ (x >>> 2)) ^^^ (x >>> 1)) ^^^ x)
    rw [Nat.shiftLeft_eq]; omega
theorem b1_lt : ∀ n, b1 n < 2147483648
  | 0 => by decide
  | n + 1 => n1_lt (b1_lt n)
theorem b2_lt {i : Nat} (h : i < 2147483648) : ∀ n, b2 i n < 2147483648
  | 0 => h
  | n + 1 => n2_lt (b2_lt h n)
theorem bit_n1 {x : Nat} (h : x < 2147483648) (i : Nat) (hi : i < 30) : (n1 x).testBit i = x.testBit (i + 1) := by
  unfold n1
  rw [Nat.testBit_or, Nat.testBit_shiftRight, Nat.testBit_shiftLeft, Nat.add_comm 1 i]
  simp; omega
theorem bit_n1_30 {x : Nat} (h : x < 2147483648) : (n1 x).testBit 30 = (x.testBit 3 ^^ x.testBit 0) := by
  unfold n1
  rw [Nat.testBit_or, Nat.testBit_shiftRight, Nat.testBit_shiftLeft, Nat.testBit_and, Nat.testBit_xor, Nat.testBit_shiftRight]
  have : x.testBit 31 = false := Nat.testBit_lt_two_pow h
  simp [this]
theorem bit_n2 {x : Nat} (h : x < 2147483648) (i : Nat) (hi : i < 30) : (n2 x).testBit i = x.testBit (i + 1) := by
  unfold n2
  rw [Nat.testBit_or, Nat.testBit_shiftRight, Nat.testBit_shiftLeft, Nat.add_comm 1 i]
  simp; omega
theorem bit_n2_30 {x : Nat} (h : x < 2147483648) : (n2 x).testBit 30 = (((x.testBit 3 ^^ x.testBit 2) ^^ x.testBit 1) ^^ x.testBit 0) := by
  unfold n2
  rw [Nat.testBit_or, Nat.testBit_shiftRight, Nat.testBit_shiftLeft, Nat.testBit_and, Nat.testBit_xor, Nat.testBit_xor, Nat.testBit_xor, Nat.testBit_shiftRight, Nat.testBit_shiftRight, Nat.testBit_shiftRight]
  have : x.testBit 31 = false := Nat.testBit_lt_two_pow h
  simp [this]
/-- Element n of the first sequence, and of the second. -/
def s1 (n : Nat) : Bool := (b1 n).testBit 0
def s2 (i n : Nat) : Bool := (b2 i n).testBit 0
theorem b1_bit : ∀ (j n : Nat), j ≤ 30 → (b1 n).testBit j = s1 (n + j)
  | 0, _, _ => rfl
  | j + 1, n, h => by
    rw [← bit_n1 (b1_lt n) j (by omega), ← b1_succ, b1_bit j (n + 1) (by omega)]
    congr 1; omega
theorem b2_bit {i : Nat} (hi : i < 2147483648) : ∀ (j n : Nat), j ≤ 30 → (b2 i n).testBit j = s2 i (n + j)
  | 0, _, _ => rfl
  | j + 1, n, h => by
    rw [← bit_n2 (b2_lt hi n) j (by omega), ← b2_succ, b2_bit hi j (n + 1) (by omega)]
    congr 1; omega
theorem s1_rec (n : Nat) : s1 (n + 31) = (s1 (n + 3) ^^ s1 n) := by
  rw [show n + 31 = (n + 1) + 30 by omega, ← b1_bit 30 (n + 1) (Nat.le_refl _), b1_succ, bit_n1_30 (b1_lt n), b1_bit 3 n (by omega), b1_bit 0 n (by omega)]; rfl
theorem s2_rec {i : Nat} (hi : i < 2147483648) (n : Nat) : s2 i (n + 31) = (((s2 i (n + 3) ^^ s2 i (n + 2)) ^^ s2 i (n + 1)) ^^ s2 i n) := by
  rw [show n + 31 = (n + 1) + 30 by omega, ← b2_bit hi 30 (n + 1) (Nat.le_refl _), b2_succ, bit_n2_30 (b2_lt hi n), b2_bit hi 3 n (by omega), b2_bit hi 2 n (by omega), b2_bit hi 1 n (by omega), b2_bit hi 0 n (by omega)]; rfl
theorem s1_start (j : Nat) (h : j ≤ 30) : s1 j = decide (j = 0) := by
  rw [← Nat.zero_add j, ← b1_bit j 0 h]
  show (1 : Nat).testBit j = _
  rw [Nat.zero_add]
  cases j with
  | zero => rfl
  | succ j => rw [Nat.testBit_lt_two_pow (Nat.lt_of_lt_of_le (by omega : 1 < 2 ^ 1) (Nat.pow_le_pow_right (by omega) (by omega)))]; simp
theorem s2_start {i : Nat} (hi : i < 2147483648) (j : Nat) (h : j ≤ 30) : s2 i j = i.testBit j := by
  rw [← Nat.zero_add j, ← b2_bit hi j 0 h, Nat.zero_add]; rfl
/-- Bit k of the scrambling sequence. -/
def c (i k : Nat) : Bool := s1 (1600 + k) ^^ s2 i (1600 + k)
theorem out_eq (i n : Nat) : out (b1 n) (b2 i n) = (s1 n ^^ s2 i n).toNat := by
  unfold out s1 s2
  rw [Nat.and_one_is_mod, ← Nat.testBit_xor, Nat.testBit_zero]
  rcases Nat.mod_two_eq_zero_or_one (b1 n ^^^ b2 i n) with h | h <;> simp [h]
end Reg
end Go.Proofs.Ytmiaddcjedjjdaa

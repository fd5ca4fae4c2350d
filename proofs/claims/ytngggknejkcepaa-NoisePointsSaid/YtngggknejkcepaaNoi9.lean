/- The channel's generator and what it does to elements, plain; no program. -/
import Derived.Test.YtngggknejkcepaaSoft9
import Derived.Laws.BitsAllLaws
namespace Go.Proofs.Ytngggknejkcepaa
namespace Noi
/-- 2 ^ 64. -/
def M : Nat := 18446744073709551616
theorem iter {x c m : Nat} (e : x = x * c % m) (hx : x < m) : ∀ n, x = x * c ^ n % m
  | 0 => by simp [Nat.mod_eq_of_lt hx]
  | n + 1 => by
    have ih := iter e hx n
    have : x * c ^ (n + 1) % m = (x * c ^ n % m) * c % m := by rw [Nat.pow_succ, ← Nat.mul_assoc]; simp [Nat.mul_mod]
    rw [this, ← ih]; exact e
theorem mul_ne {x c n d : Nat} (hd : c ^ n = M * d) (h : 0 < x) (h2 : x < M) : x ≠ x * c % M := by
  intro e
  have := iter e h2 n
  rw [hd, ← Nat.mul_assoc, Nat.mul_comm x M, Nat.mul_assoc, Nat.mul_mod_right] at this
  omega
def s1 (x : Nat) : Nat := x ^^^ (x * 8192 % M)
def s2 (x : Nat) : Nat := x ^^^ (x / 128)
def s3 (x : Nat) : Nat := x ^^^ (x * 131072 % M)
/-- A step of the generator. -/
def step (x : Nat) : Nat := s3 (s2 (s1 x))
theorem s1_lt {x : Nat} (h : x < M) : s1 x < M := Nat.xor_lt_two_pow (n := 64) h (Nat.mod_lt _ (by decide))
theorem s2_lt {x : Nat} (h : x < M) : s2 x < M := Nat.xor_lt_two_pow (n := 64) h (Nat.lt_of_le_of_lt (Nat.div_le_self _ _) h)
theorem s3_lt {x : Nat} (h : x < M) : s3 x < M := Nat.xor_lt_two_pow (n := 64) h (Nat.mod_lt _ (by decide))
theorem step_lt {x : Nat} (h : x < M) : step x < M := s3_lt (s2_lt (s1_lt h))
theorem xor_zero {a b : Nat} (h : a ^^^ b = 0) : a = b := by
  apply Nat.eq_of_testBit_eq
  intro i
  have := congrArg (fun n => n.testBit i) h
  simp only [Nat.testBit_xor, Nat.zero_testBit] at this
  cases ha : a.testBit i <;> cases hb : b.testBit i <;> simp_all
theorem s1_pos {x : Nat} (h : 0 < x) (h2 : x < M) : 0 < s1 x := Nat.pos_of_ne_zero fun h0 => mul_ne (n := 5) (d := 2) (by decide) h h2 (xor_zero h0)
theorem s2_pos {x : Nat} (h : 0 < x) : 0 < s2 x := by
  refine Nat.pos_of_ne_zero fun h0 => ?_
  have := xor_zero h0
  have := Nat.div_lt_self h (show 1 < 128 by decide)
  omega
theorem s3_pos {x : Nat} (h : 0 < x) (h2 : x < M) : 0 < s3 x := Nat.pos_of_ne_zero fun h0 => mul_ne (n := 4) (d := 16) (by decide) h h2 (xor_zero h0)
theorem step_pos {x : Nat} (h : 0 < x) (h2 : x < M) : 0 < step x := s3_pos (s2_pos (s1_pos h h2)) (s2_lt (s1_lt h2))
open Go in
theorem s1_cast {x : Nat} (h : x < M) : bits .xor .u64 (x : Int) (IntKind.u64.wrap ((x : Int) * 8192)) = ((s1 x : Nat) : Int) := by
  have e : IntKind.u64.wrap ((x : Int) * 8192) = ((x * 8192 % M : Nat) : Int) := by simp [IntKind.wrap, IntKind.bits, IntKind.signed, M]
  rw [e, u64_xor_nat x (x * 8192 % M) h (Nat.mod_lt _ (by decide))]
  rfl
open Go in
theorem s2_cast {x : Nat} (h : x < M) : bits .xor .u64 (x : Int) ((x : Int) / 128) = ((s2 x : Nat) : Int) := by
  have e : (x : Int) / 128 = ((x / 128 : Nat) : Int) := by omega
  rw [e, u64_xor_nat _ _ h (Nat.lt_of_le_of_lt (Nat.div_le_self _ _) h)]
  rfl
open Go in
theorem s3_cast {x : Nat} (h : x < M) : bits .xor .u64 (x : Int) (IntKind.u64.wrap ((x : Int) * 131072)) = ((s3 x : Nat) : Int) := by
  have e : IntKind.u64.wrap ((x : Int) * 131072) = ((x * 131072 % M : Nat) : Int) := by simp [IntKind.wrap, IntKind.bits, IntKind.signed, M]
  rw [e, u64_xor_nat x (x * 131072 % M) h (Nat.mod_lt _ (by decide))]
  rfl
/-- What happens to an element at an output: 0 nothing, 1 an inversion, 2 an erasure. -/
def evt (f e : Int) (x : Nat) : Int := if (x : Int) % 1024 < f then 1 else if (x : Int) % 1024 < f + e then 2 else 0
theorem evt_cases (f e : Int) (x : Nat) : evt f e x = 0 ∨ evt f e x = 1 ∨ evt f e x = 2 := by unfold evt; split <;> (try split) <;> simp
/-- The disturbance at an output. -/
def dis (s : Int) (x : Nat) : Int := (x : Int) % (2 * s + 1) - s
theorem dis_lo {s : Int} (h : 0 ≤ s) (x : Nat) : -s ≤ dis s x := by
  unfold dis
  have := Int.emod_nonneg (x : Int) (show 2 * s + 1 ≠ 0 by omega)
  omega
theorem dis_hi {s : Int} (h : 0 ≤ s) (x : Nat) : dis s x ≤ s := by
  unfold dis
  have := Int.emod_lt_of_pos (x : Int) (show 0 < 2 * s + 1 by omega)
  omega
/-- n steps. -/
def stN (x : Nat) : Nat → Nat
  | 0 => x
  | n + 1 => step (stN x n)
theorem stN_add (x a : Nat) : ∀ b, stN x (a + b) = stN (stN x a) b
  | 0 => rfl
  | b + 1 => congrArg step (stN_add x a b)
theorem stN_lt {x : Nat} (h : x < M) : ∀ n, stN x n < M
  | 0 => h
  | n + 1 => step_lt (stN_lt h n)
theorem stN_pos {x : Nat} (h : 0 < x) (h2 : x < M) : ∀ n, 0 < stN x n
  | 0 => h
  | n + 1 => step_pos (stN_pos h h2 n) (stN_lt h2 n)
/-- A soft value behind an event. -/
def vin (f e : Int) (x : Nat) (v : Int) : Int := if evt f e x = 1 then -v else if evt f e x = 2 then 0 else v
/-- A soft value, transmitted in state x. -/
def val (f e s : Int) (x : Nat) (v : Int) : Int := Soft.clamp (vin f e (step x) v + dis s (step (step x)))
def sofG (f e s : Int) (x : Nat) (A : List Int) (k : Nat) : Int := val f e s (stN x (2 * k)) (A.getD k 0)
def sofL (f e s : Int) (x : Nat) (A : List Int) : List Int := if Soft.bad A = true then [] else Soft.tab (sofG f e s x A) A.length
def sofX (x : Nat) (A : List Int) : Nat := if Soft.bad A = true then x else stN x (2 * A.length)
def sofE (A : List Int) : Int := if Soft.bad A = true then 2 else 0
/-- A bit, transmitted in state x. -/
def bit (f e : Int) (x : Nat) (b : Int) : Int := if evt f e (step x) = 0 then b else 1 - b
def bitG (f e : Int) (x : Nat) (B : List Int) (k : Nat) : Int := bit f e (stN x k) (B.getD k 0)
def bitL (f e : Int) (x : Nat) (B : List Int) : List Int := if Soft.bbad B = true then [] else Soft.tab (bitG f e x B) B.length
def bitX (x : Nat) (B : List Int) : Nat := if Soft.bbad B = true then x else stN x B.length
def bitE (B : List Int) : Int := if Soft.bbad B = true then 3 else 0
/-- No point. -/
def pinv (p : Int × Int) : Bool := decide (p.1 < -1073741824) || decide (1073741824 < p.1) || decide (p.2 < -1073741824) || decide (1073741824 < p.2)
def pbad (P : List (Int × Int)) : Bool := P.any pinv
def pt (s : Int) (x : Nat) (p : Int × Int) : Int × Int := (p.1 + dis s (step x), p.2 + dis s (step (step x)))
def ptG (s : Int) (x : Nat) (P : List (Int × Int)) (k : Nat) : Int × Int := pt s (stN x (2 * k)) (P.getD k (0, 0))
def ptL (s : Int) (x : Nat) (P : List (Int × Int)) : List (Int × Int) := if pbad P = true then [] else (List.range P.length).map (ptG s x P)
def ptX (x : Nat) (P : List (Int × Int)) : Nat := if pbad P = true then x else stN x (2 * P.length)
def ptE (P : List (Int × Int)) : Int := if pbad P = true then 2 else 0
end Noi
end Go.Proofs.Ytngggknejkcepaa

/- userplane/gold: the registers' step. -/
import Derived.Test.YtmiaddcjedjjdaaLib
import Derived.Test.YtmiaddcjedjjdaaProg
import Derived.Test.YtmiaddcjedjjdaaReg9
namespace Go.Proofs.Ytmiaddcjedjjdaa
open Go.RowKit
set_option linter.unusedVariables false
theorem shr1_cast (x : Nat) : (x : Int) / (2 : Int) = Nat.cast (x >>> 1) := by rw [Nat.shiftRight_eq_div_pow]; rfl
theorem shr2_cast (x : Nat) : (x : Int) / (4 : Int) = Nat.cast (x >>> 2) := by rw [Nat.shiftRight_eq_div_pow]; rfl
theorem shr3_cast (x : Nat) : (x : Int) / (8 : Int) = Nat.cast (x >>> 3) := by rw [Nat.shiftRight_eq_div_pow]; rfl
theorem out_cast {x1 x2 : Nat} (h1 : x1 < 2147483648) (h2 : x2 < 2147483648) : bits .and .u32 (bits .xor .u32 (x1 : Int) (x2 : Int)) 1 % 256 = ((Reg.out x1 x2 : Nat) : Int) := by
  have hx : x1 ^^^ x2 < 4294967296 := Nat.xor_lt_two_pow (n := 32) (by omega) (by omega)
  rw [u32_xor_nat _ _ (by omega) (by omega), show (1 : Int) = ((1 : Nat) : Int) from rfl, u32_and_nat _ _ hx (by omega)]
  have := Reg.and1_lt (x1 ^^^ x2)
  unfold Reg.out
  omega
theorem n1_cast {x : Nat} (h : x < 2147483648) : bits .or .u32 ((x : Int) / 2) (bits .and .u32 (bits .xor .u32 ((x : Int) / 8) (x : Int)) 1 * 1073741824 % 4294967296) = ((Reg.n1 x : Nat) : Int) := by
  have e1 := shr1_cast x
  have e3 := shr3_cast x
  have l1 : x >>> 1 < 4294967296 := by rw [Nat.shiftRight_eq_div_pow]; omega
  have l3 : x >>> 3 < 4294967296 := by rw [Nat.shiftRight_eq_div_pow]; omega
  rw [e1, e3, u32_xor_nat _ _ l3 (by omega), show (1 : Int) = ((1 : Nat) : Int) from rfl, u32_and_nat _ _ (Nat.xor_lt_two_pow (n := 32) l3 (by omega)) (by omega)]
  have hb := Reg.and1_lt ((x >>> 3) ^^^ x)
  have e4 : (((x >>> 3) ^^^ x) &&& 1 : Nat) * (1073741824 : Int) % (4294967296 : Int) = (((((x >>> 3) ^^^ x) &&& 1) <<< 30 : Nat) : Int) := by
    rw [Nat.shiftLeft_eq]; omega
  rw [e4, u32_or_nat _ _ l1 (by rw [Nat.shiftLeft_eq]; omega)]
  rfl
theorem n2_cast {x : Nat} (h : x < 2147483648) : bits .or .u32 ((x : Int) / 2) (bits .and .u32 (bits .xor .u32 (bits .xor .u32 (bits .xor .u32 ((x : Int) / 8) ((x : Int) / 4)) ((x : Int) / 2)) (x : Int)) 1 * 1073741824 % 4294967296) = ((Reg.n2 x : Nat) : Int) := by
  have e1 := shr1_cast x
  have e2 := shr2_cast x
  have e3 := shr3_cast x
  have l1 : x >>> 1 < 4294967296 := by rw [Nat.shiftRight_eq_div_pow]; omega
  have l2 : x >>> 2 < 4294967296 := by rw [Nat.shiftRight_eq_div_pow]; omega
  have l3 : x >>> 3 < 4294967296 := by rw [Nat.shiftRight_eq_div_pow]; omega
  have x1 := Nat.xor_lt_two_pow (n := 32) l3 l2
  have x2 := Nat.xor_lt_two_pow (n := 32) x1 l1
  have x3 := Nat.xor_lt_two_pow (n := 32) x2 (show x < 2 ^ 32 by omega)
  rw [e1, e2, e3, u32_xor_nat _ _ l3 l2, u32_xor_nat _ _ x1 l1, u32_xor_nat _ _ x2 (by omega), show (1 : Int) = ((1 : Nat) : Int) from rfl, u32_and_nat _ _ x3 (by omega)]
  have hb := Reg.and1_lt ((((x >>> 3) ^^^ (x >>> 2)) ^^^ (x >>> 1)) ^^^ x)
  have e4 : (((((x >>> 3) ^^^ (x >>> 2)) ^^^ (x >>> 1)) ^^^ x) &&& 1 : Nat) * (1073741824 : Int) % (4294967296 : Int) = (((((((x >>> 3) ^^^ (x >>> 2)) ^^^ (x >>> 1)) ^^^ x) &&& 1) <<< 30 : Nat) : Int) := by
    rw [Nat.shiftLeft_eq]; omega
  rw [e4, u32_or_nat _ _ l1 (by rw [Nat.shiftLeft_eq]; omega)]
  rfl

set_option maxHeartbeats 1000000 in
theorem next_any (x1 x2 : Nat) (h1 : x1 < 2147483648) (h2 : x2 < 2147483648) (w : World) (base B : Nat) (hown : OwnL w base 59 (.slice (some ⟨B, 0, none⟩) 2 2) [.int .u32 x1, .int .u32 x2]) :
    Calls Try.prog 26 #[.pointer (some ⟨B, 0, none⟩)] w fun e w' => e = .returned (.int .u8 (Reg.out x1 x2)) ∧
      OwnL w' base 59 (.slice (some ⟨B, 0, none⟩) 2 2) [.int .u32 (Reg.n1 x1), .int .u32 (Reg.n2 x2)] ∧ Fr (fun k => k = B) w w' := by
  have hc0 := hown.at 0 (by simp)
  have hc1 := hown.at 1 (by simp)
  have hf0 := hown.free 0
  have hf1 := hown.free 1
  simp only [List.getElem_cons_zero, List.getElem_cons_succ] at hc0 hc1
  have HO := hid hown
  clear hown
  go_enter Try.func26, Try.ntmps26
  go_wp2
  go_quiet (fail)
  go_wp2
  go_quiet (fail)
  go_wp2
  go_quiet (fail)
  go_wp2
  go_ret
  refine ⟨ret_int (out_cast h1 h2), ?_, (Fr.drewN _ _ _).trans ((Fr.setCell (S := fun k => k = B) _ ⟨B, 0, none⟩ _ rfl).trans (Fr.setCell (S := fun k => k = B) _ ⟨B, 1, none⟩ _ rfl))⟩
  rw [n1_cast h1, n2_cast h2]
  exact ((HO.out.fr (Fr.drewN (fun _ => False) w _) (fun _ _ h => h)).stored 0 _).stored 1 _
end Go.Proofs.Ytmiaddcjedjjdaa

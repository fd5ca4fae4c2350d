/- userplaneref03.Add: the sum modulo 2 of two slices. -/
import Derived.Test.YtmiaddcjedjjdaaApp
import Derived.Test.YtmiaddcjedjjdaaVw2
import Derived.Test.YtmiaddcjedjjdaaProg
import Derived.Laws.BitsAllLaws
import Derived.Test.YtmiaddcjedjjdaaStepApp
namespace Go.Proofs.Ytmiaddcjedjjdaa
open Go.RowKit
set_option linter.unusedVariables false
def addEl (A B : List Int) (k : Nat) : Int := ((A.getD k 0).toNat ^^^ (B.getD k 0).toNat : Nat)
def addL (A B : List Int) (n : Nat) : List Int := (List.range n).map (addEl A B)
theorem addL_succ (A B : List Int) (n : Nat) : addL A B (n + 1) = addL A B n ++ [addEl A B n] := by simp [addL, List.range_succ]
theorem addL_len (A B : List Int) (n : Nat) : (addL A B n).length = n := by simp [addL]
theorem elem_byteA : Elem1 Try.prog 30 5 1 (.int .u8 0) := Elem1.mk' Try.underlying30 (by kernel_rfl) rfl
set_option maxHeartbeats 1000000 in
theorem add_any (w : World) (va vb : Value) (A B : List Int) (ha : Vw w va (A.map (Value.int .u8))) (hb : Vw w vb (B.map (Value.int .u8))) (hl : A.length = B.length) (hlen : A.length ≤ 131072)
    (hA : ∀ n ∈ A, 0 ≤ n ∧ n < 256) (hB : ∀ n ∈ B, 0 ≤ n ∧ n < 256) :
    Calls Try.prog 21 #[va, vb] w fun e w' => (∃ v', e = .returned v' ∧ OwnL w' w.heap.size 5 v' ((addL A B A.length).map (Value.int .u8))) ∧ Below w.heap.size w w' := by
  have HA := hid hA
  have HB := hid hB
  have HL := hid hl
  rcases vw_split ha with ⟨a, c, rfl, rfl⟩ | ⟨b1, o1, c1, rfl, hp1, hc1⟩
  · clear ha hb hA hB hl
    go_enter Try.func21, Try.ntmps21
    go_wp2
    refine wp_loop_rounds 1 ?_
    rw [rounds_succ]
    go_wp2
    go_ret
    exact ⟨⟨_, rfl, OwnL.nil _ _ _⟩, Below.refl _ _⟩
  rcases vw_split hb with ⟨a, c, rfl, rfl⟩ | ⟨b2, o2, c2, rfl, hp2, hc2⟩
  · simp at hl; simp [hl] at hp1
  have HC1 := hid hc1
  have HC2 := hid hc2
  have hbl1 : b1 < w.heap.size := World.block_lt_of_cell? w _ (hc1 0 hp1)
  have hbl2 : b2 < w.heap.size := World.block_lt_of_cell? w _ (hc2 0 hp2)
  clear ha hb hA hB hc1 hc2 hl
  have hle2 : A.length ≤ B.length := Nat.le_of_eq HL.out
  go_enter Try.func21, Try.ntmps21
  go_wp2
  go_loopw [5, 6] (fun v i wr => ∃ k : Nat, k ≤ A.length ∧ i = .int .i64 k ∧ OwnL wr w.heap.size 5 v ((addL A B k).map (Value.int .u8)) ∧ Below w.heap.size w wr) (fun _ i _ => A.length - (intOf i).toNat)
  case atStart => exact ⟨0, Nat.zero_le _, rfl, OwnL.nil _ _ _, Below.refl _ _⟩
  case round =>
    obtain ⟨k, hk, rfl, hown, hBl⟩ := hrel
    by_cases hlt : k < A.length
    · have hx := (hBl.cell (p := ⟨b1, o1 + k, none⟩) hbl1).trans (HC1.out k hlt)
      have hy := (hBl.cell (p := ⟨b2, o2 + k, none⟩) hbl2).trans (HC2.out k (by omega))
      have hkB : k < B.length := by omega
      have hx1 := HA.out (A.getD k 0) (by simp [List.getD, hlt])
      have hy1 := HB.out (B.getD k 0) (by have : k < B.length := by omega
                                          simp [List.getD, this])
      have HE := hid (show addEl A B k = (((A.getD k 0).toNat ^^^ (B.getD k 0).toNat : Nat) : Int) from rfl)
      have HS := hid (addL_succ A B k)
      have HN := hid (show ((addL A B k).map (Value.int .u8)).length = k by simp [addL_len])
      generalize A.getD k 0 = x at hx hx1 HE
      generalize B.getD k 0 = y at hy hy1 HE
      have hxor : bits .xor .u8 x y = ((x.toNat ^^^ y.toNat : Nat) : Int) := u8_xor x y (by omega) (by omega) (by omega) (by omega)
      generalize x.toNat ^^^ y.toNat = z at hxor HE
      have hown' := hown.fr (Fr.drew (fun _ => False) wr) (fun _ _ h => h)
      have hsz : w.heap.size ≤ wr.drew.heap.size := hBl.size
      have HBl := hid hBl
      have HFd := hid ((Fr.drew (fun _ => False) wr).below hBl.size (fun _ _ h => h))
      clear hown hBl hx1 hy1
      go_wp2
      go_region_law (refine step_append_one rfl elem_byteA (.tmp 13) (.tmp 23) rfl w.heap.size u5 k _ HN.out ?_ hown' _ ?_ ?_ (by omega) (by omega) hsz ?_; rfl; rfl; rfl; intro g1 cap1 w1 hown1 hf)
      all_goals (
        have hB4 := HBl.out.trans (HFd.out.trans (hf.below hsz (fun i hi e => by have := (hown'.block e).1; omega)))
        clear hown' hf
        go_wp2
        go_roundw
        case rel => exact ⟨k + 1, by omega, by go_num, by rw [HS.out, List.map_append, HE.out]; exact hown1, hB4⟩
        case measure => simp [intOf]; omega)
    · obtain rfl : k = A.length := by omega
      go_wp2
      go_ret
      exact ⟨⟨_, rfl, hown⟩, hBl⟩
end Go.Proofs.Ytmiaddcjedjjdaa

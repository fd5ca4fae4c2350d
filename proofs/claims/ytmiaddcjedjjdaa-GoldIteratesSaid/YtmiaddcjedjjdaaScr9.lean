/- Scrambling, as lists; no program. -/
import Derived.Test.YtmiaddcjedjjdaaReg9
import Derived.Lib.Hide
import Derived.WalkKit
namespace Go.Proofs.Ytmiaddcjedjjdaa
namespace Scr
def binv (x : Int) : Bool := decide (1 < x)
def bok (x : Int) : Prop := 0 ≤ x ∧ x ≤ 1
theorem bok_of {x : Int} (h : binv x = false) (hw : (Lit.int .u8 x).wf = true) : bok x := by
  simp [binv] at h
  simp [Lit.wf, IntKind.min, IntKind.max, IntKind.signed, IntKind.bits] at hw
  unfold bok
  omega
def bflip (x : Int) : Int := 1 - x
def bbad (B : List Int) : Bool := B.any binv
theorem bbad_eq (B : List Int) : ((List.range B.length).any fun i => binv (B.getD i 0)) = bbad B := by
  rw [Bool.eq_iff_iff]
  simp only [bbad, List.any_eq_true, List.mem_range]
  constructor
  · rintro ⟨i, hi, h⟩
    exact ⟨B[i], List.getElem_mem hi, by simpa [List.getD, hi] using h⟩
  · rintro ⟨b, hb, h⟩
    obtain ⟨i, hi, rfl⟩ := List.getElem_of_mem hb
    exact ⟨i, hi, by simpa [List.getD, hi] using h⟩
theorem bbad_at {B : List Int} (h : bbad B = false) {i : Nat} (hi : i < B.length) : binv (B.getD i 0) = false := by
  have := List.any_eq_false.1 h B[i] (List.getElem_mem hi)
  simpa [List.getD, hi] using this
def bel (i : Nat) (B : List Int) (k : Nat) : Int := if Reg.c i k then bflip (B.getD k 0) else B.getD k 0
def bscr (i : Nat) (B : List Int) (n : Nat) : List Int := (List.range n).map (bel i B)
theorem bscr_succ (i : Nat) (B : List Int) (n : Nat) : bscr i B (n + 1) = bscr i B n ++ [bel i B n] := by
  simp [bscr, List.range_succ]
theorem bscr_len (i : Nat) (B : List Int) (n : Nat) : (bscr i B n).length = n := by simp [bscr]
def iinv (x : Int) : Bool := (decide (x < -127) || decide (127 < x))
def iok (x : Int) : Prop := -127 ≤ x ∧ x ≤ 127
theorem iok_of {x : Int} (h : iinv x = false) (hw : (Lit.int .i64 x).wf = true) : iok x := by
  simp [iinv] at h
  simp [Lit.wf, IntKind.min, IntKind.max, IntKind.signed, IntKind.bits] at hw
  unfold iok
  omega
def iflip (x : Int) : Int := -x
def ibad (B : List Int) : Bool := B.any iinv
theorem ibad_eq (B : List Int) : ((List.range B.length).any fun i => iinv (B.getD i 0)) = ibad B := by
  rw [Bool.eq_iff_iff]
  simp only [ibad, List.any_eq_true, List.mem_range]
  constructor
  · rintro ⟨i, hi, h⟩
    exact ⟨B[i], List.getElem_mem hi, by simpa [List.getD, hi] using h⟩
  · rintro ⟨b, hb, h⟩
    obtain ⟨i, hi, rfl⟩ := List.getElem_of_mem hb
    exact ⟨i, hi, by simpa [List.getD, hi] using h⟩
theorem ibad_at {B : List Int} (h : ibad B = false) {i : Nat} (hi : i < B.length) : iinv (B.getD i 0) = false := by
  have := List.any_eq_false.1 h B[i] (List.getElem_mem hi)
  simpa [List.getD, hi] using this
def iel (i : Nat) (B : List Int) (k : Nat) : Int := if Reg.c i k then iflip (B.getD k 0) else B.getD k 0
def iscr (i : Nat) (B : List Int) (n : Nat) : List Int := (List.range n).map (iel i B)
theorem iscr_succ (i : Nat) (B : List Int) (n : Nat) : iscr i B (n + 1) = iscr i B n ++ [iel i B n] := by
  simp [iscr, List.range_succ]
theorem iscr_len (i : Nat) (B : List Int) (n : Nat) : (iscr i B n).length = n := by simp [iscr]
end Scr
end Go.Proofs.Ytmiaddcjedjjdaa

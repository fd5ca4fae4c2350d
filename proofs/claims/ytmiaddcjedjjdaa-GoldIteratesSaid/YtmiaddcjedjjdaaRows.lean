/-
  No cell of these rows narrows 'for every input' (looked for: loops, veiled, ifaces, maps, wideKeys, modest, calm, conditions, laid).
  DERIVED. THE GIVEN ROWS OF THIS SEAT. 9 by the template 'for every input the law returns true; each argument reads behind the call as it read before'; 0 by the template 'total and deterministic' (their statements: YtmiaddcjedjjdaaTotals.lean).
  GIVEN WITH THE SEED: the statements are not yours to turn. If you find one false, say at which input.
  Laid BY PROGRAM, IN A SANDBOX (cutbox-rows.mjs): the forced cells as the released guide's own fill.sh prints them over the translation b985fc1439b7e242… (all of the seat's roots in one cut). By AI agents, Wed Nov 11 2026. No macro, syntax, notation, axiom, sorry.
-/
import Derived.Test.YtmiaddcjedjjdaaChecked
import GoSem.Claim
import GoSem.ClaimJoined
import GoSem.ClaimMapViews
import Derived.JoinedTies
import Derived.KernelRfl
namespace Go.Proofs.Ytmiaddcjedjjdaa
/- THE CELL 'sum', in the pinned program and in every row, IS THE sha256 OF THE DUMP (.gsa) THAT YtmiaddcjedjjdaaProg.lean LOADS. Nothing in Lean hashes anything: it is a label: what it is worth is what the hold of that sum in a sandbox is worth. -/
noncomputable def Try.pinned : Pinned := { name := "ytmiaddcjedjjdaa", sum := "b985fc1439b7e2421e3d5aec6fd7fc67216c1add4a433cb1a571aaadaf3bba75", checked := Try.checked }
namespace Rows
def none {H : Type} : Left H := { results := [], args := [] }

/-- 'userplanelaw04.GoldInits': WHATEVER THE INPUT: true; the input reads as it did. -/
def goldInitsSpec : ChangeSpec := { name := "goldInits", fn := fun _ => fun
  | [d1, d2, d3, d4] => { results := [.lit (.bool true)], args := [d1, d2, d3, d4] }
  | _ => none }
def goldInitsRow : OpenClaim := { program := "ytmiaddcjedjjdaa", sum := "b985fc1439b7e2421e3d5aec6fd7fc67216c1add4a433cb1a571aaadaf3bba75", func := "userplane/userplanelaw04.GoldInits", spec := "goldInits", unfollowed := true, recurses := true, apart := false }
def GoldInitsSaid : Prop := goldInitsRow.holds Try.pinned (OpenSpec.ofChange goldInitsSpec)

/-- ITS FALSE NEIGHBOUR: 'it returns false'. Refute it at one input. -/
def goldInitsWrong : ChangeSpec := { name := "goldInits", fn := fun _ => fun
  | [d1, d2, d3, d4] => { results := [.lit (.bool false)], args := [d1, d2, d3, d4] }
  | _ => none }
def GoldInitsWrongFalsely : Prop := goldInitsRow.holds Try.pinned (OpenSpec.ofChange goldInitsWrong)

/-- 'userplanelaw04.GoldSequences': WHATEVER THE INPUT: true; the input reads as it did. -/
def goldSequencesSpec : ChangeSpec := { name := "goldSequences", fn := fun _ => fun
  | [d1, d2] => { results := [.lit (.bool true)], args := [d1, d2] }
  | _ => none }
def goldSequencesRow : OpenClaim := { program := "ytmiaddcjedjjdaa", sum := "b985fc1439b7e2421e3d5aec6fd7fc67216c1add4a433cb1a571aaadaf3bba75", func := "userplane/userplanelaw04.GoldSequences", spec := "goldSequences", unfollowed := true, recurses := true, apart := false }
def GoldSequencesSaid : Prop := goldSequencesRow.holds Try.pinned (OpenSpec.ofChange goldSequencesSpec)

/-- ITS FALSE NEIGHBOUR: 'it returns false'. Refute it at one input. -/
def goldSequencesWrong : ChangeSpec := { name := "goldSequences", fn := fun _ => fun
  | [d1, d2] => { results := [.lit (.bool false)], args := [d1, d2] }
  | _ => none }
def GoldSequencesWrongFalsely : Prop := goldSequencesRow.holds Try.pinned (OpenSpec.ofChange goldSequencesWrong)

/-- 'userplanelaw04.GoldIterates': WHATEVER THE INPUT: true; the input reads as it did. -/
def goldIteratesSpec : ChangeSpec := { name := "goldIterates", fn := fun _ => fun
  | [d1, d2, d3] => { results := [.lit (.bool true)], args := [d1, d2, d3] }
  | _ => none }
def goldIteratesRow : OpenClaim := { program := "ytmiaddcjedjjdaa", sum := "b985fc1439b7e2421e3d5aec6fd7fc67216c1add4a433cb1a571aaadaf3bba75", func := "userplane/userplanelaw04.GoldIterates", spec := "goldIterates", unfollowed := true, recurses := true, apart := false }
def GoldIteratesSaid : Prop := goldIteratesRow.holds Try.pinned (OpenSpec.ofChange goldIteratesSpec)

/-- ITS FALSE NEIGHBOUR: 'it returns false'. Refute it at one input. -/
def goldIteratesWrong : ChangeSpec := { name := "goldIterates", fn := fun _ => fun
  | [d1, d2, d3] => { results := [.lit (.bool false)], args := [d1, d2, d3] }
  | _ => none }
def GoldIteratesWrongFalsely : Prop := goldIteratesRow.holds Try.pinned (OpenSpec.ofChange goldIteratesWrong)

/-- 'userplanelaw04.GoldScrambles': WHATEVER THE INPUT: true; the input reads as it did. -/
def goldScramblesSpec : ChangeSpec := { name := "goldScrambles", fn := fun _ => fun
  | [d1, d2] => { results := [.lit (.bool true)], args := [d1, d2] }
  | _ => none }
def goldScramblesRow : OpenClaim := { program := "ytmiaddcjedjjdaa", sum := "b985fc1439b7e2421e3d5aec6fd7fc67216c1add4a433cb1a571aaadaf3bba75", func := "userplane/userplanelaw04.GoldScrambles", spec := "goldScrambles", unfollowed := true, recurses := true, apart := false }
def GoldScramblesSaid : Prop := goldScramblesRow.holds Try.pinned (OpenSpec.ofChange goldScramblesSpec)

/-- ITS FALSE NEIGHBOUR: 'it returns false'. Refute it at one input. -/
def goldScramblesWrong : ChangeSpec := { name := "goldScrambles", fn := fun _ => fun
  | [d1, d2] => { results := [.lit (.bool false)], args := [d1, d2] }
  | _ => none }
def GoldScramblesWrongFalsely : Prop := goldScramblesRow.holds Try.pinned (OpenSpec.ofChange goldScramblesWrong)

/-- 'userplanelaw04.GoldApart': WHATEVER THE INPUT: true; the input reads as it did. -/
def goldApartSpec : ChangeSpec := { name := "goldApart", fn := fun _ => fun
  | [d1, d2] => { results := [.lit (.bool true)], args := [d1, d2] }
  | _ => none }
def goldApartRow : OpenClaim := { program := "ytmiaddcjedjjdaa", sum := "b985fc1439b7e2421e3d5aec6fd7fc67216c1add4a433cb1a571aaadaf3bba75", func := "userplane/userplanelaw04.GoldApart", spec := "goldApart", unfollowed := true, recurses := true, apart := false }
def GoldApartSaid : Prop := goldApartRow.holds Try.pinned (OpenSpec.ofChange goldApartSpec)

/-- ITS FALSE NEIGHBOUR: 'it returns false'. Refute it at one input. -/
def goldApartWrong : ChangeSpec := { name := "goldApart", fn := fun _ => fun
  | [d1, d2] => { results := [.lit (.bool false)], args := [d1, d2] }
  | _ => none }
def GoldApartWrongFalsely : Prop := goldApartRow.holds Try.pinned (OpenSpec.ofChange goldApartWrong)

/-- 'userplanelaw04.GoldLinear': WHATEVER THE INPUT: true; the input reads as it did. -/
def goldLinearSpec : ChangeSpec := { name := "goldLinear", fn := fun _ => fun
  | [d1, d2, d3] => { results := [.lit (.bool true)], args := [d1, d2, d3] }
  | _ => none }
def goldLinearRow : OpenClaim := { program := "ytmiaddcjedjjdaa", sum := "b985fc1439b7e2421e3d5aec6fd7fc67216c1add4a433cb1a571aaadaf3bba75", func := "userplane/userplanelaw04.GoldLinear", spec := "goldLinear", unfollowed := true, recurses := true, apart := false }
def GoldLinearSaid : Prop := goldLinearRow.holds Try.pinned (OpenSpec.ofChange goldLinearSpec)

/-- ITS FALSE NEIGHBOUR: 'it returns false'. Refute it at one input. -/
def goldLinearWrong : ChangeSpec := { name := "goldLinear", fn := fun _ => fun
  | [d1, d2, d3] => { results := [.lit (.bool false)], args := [d1, d2, d3] }
  | _ => none }
def GoldLinearWrongFalsely : Prop := goldLinearRow.holds Try.pinned (OpenSpec.ofChange goldLinearWrong)

/-- 'userplanelaw04.GoldSofts': WHATEVER THE INPUT: true; the input reads as it did. -/
def goldSoftsSpec : ChangeSpec := { name := "goldSofts", fn := fun _ => fun
  | [d1, d2] => { results := [.lit (.bool true)], args := [d1, d2] }
  | _ => none }
def goldSoftsRow : OpenClaim := { program := "ytmiaddcjedjjdaa", sum := "b985fc1439b7e2421e3d5aec6fd7fc67216c1add4a433cb1a571aaadaf3bba75", func := "userplane/userplanelaw04.GoldSofts", spec := "goldSofts", unfollowed := true, recurses := true, apart := false }
def GoldSoftsSaid : Prop := goldSoftsRow.holds Try.pinned (OpenSpec.ofChange goldSoftsSpec)

/-- ITS FALSE NEIGHBOUR: 'it returns false'. Refute it at one input. -/
def goldSoftsWrong : ChangeSpec := { name := "goldSofts", fn := fun _ => fun
  | [d1, d2] => { results := [.lit (.bool false)], args := [d1, d2] }
  | _ => none }
def GoldSoftsWrongFalsely : Prop := goldSoftsRow.holds Try.pinned (OpenSpec.ofChange goldSoftsWrong)

/-- 'userplanelaw04.GoldTwice': WHATEVER THE INPUT: true; the input reads as it did. -/
def goldTwiceSpec : ChangeSpec := { name := "goldTwice", fn := fun _ => fun
  | [d1, d2, d3] => { results := [.lit (.bool true)], args := [d1, d2, d3] }
  | _ => none }
def goldTwiceRow : OpenClaim := { program := "ytmiaddcjedjjdaa", sum := "b985fc1439b7e2421e3d5aec6fd7fc67216c1add4a433cb1a571aaadaf3bba75", func := "userplane/userplanelaw04.GoldTwice", spec := "goldTwice", unfollowed := true, recurses := true, apart := false }
def GoldTwiceSaid : Prop := goldTwiceRow.holds Try.pinned (OpenSpec.ofChange goldTwiceSpec)

/-- ITS FALSE NEIGHBOUR: 'it returns false'. Refute it at one input. -/
def goldTwiceWrong : ChangeSpec := { name := "goldTwice", fn := fun _ => fun
  | [d1, d2, d3] => { results := [.lit (.bool false)], args := [d1, d2, d3] }
  | _ => none }
def GoldTwiceWrongFalsely : Prop := goldTwiceRow.holds Try.pinned (OpenSpec.ofChange goldTwiceWrong)

/-- 'userplanelaw04.GoldMost': WHATEVER THE INPUT: true; the input reads as it did. -/
def goldMostSpec : ChangeSpec := { name := "goldMost", fn := fun _ => fun
  | [d1, d2] => { results := [.lit (.bool true)], args := [d1, d2] }
  | _ => none }
def goldMostRow : OpenClaim := { program := "ytmiaddcjedjjdaa", sum := "b985fc1439b7e2421e3d5aec6fd7fc67216c1add4a433cb1a571aaadaf3bba75", func := "userplane/userplanelaw04.GoldMost", spec := "goldMost", unfollowed := true, recurses := true, apart := false }
def GoldMostSaid : Prop := goldMostRow.holds Try.pinned (OpenSpec.ofChange goldMostSpec)

/-- ITS FALSE NEIGHBOUR: 'it returns false'. Refute it at one input. -/
def goldMostWrong : ChangeSpec := { name := "goldMost", fn := fun _ => fun
  | [d1, d2] => { results := [.lit (.bool false)], args := [d1, d2] }
  | _ => none }
def GoldMostWrongFalsely : Prop := goldMostRow.holds Try.pinned (OpenSpec.ofChange goldMostWrong)

/- THE SECOND FORM. 'bulk': how many values and letters a reading holds, each counted each time it is reached (what is shared counts as often as it is met; a slice's spare places count too). A statement '..UptoSaid' is the law's where the arguments, and the package variables that the reading takes, are together of bulk at most 1048576: NARROWER than '..Said'. Prove '..Said' where nothing that the law and all that it calls make is longer than what came in: it says more and counts as full. Else prove '..UptoSaid'. A law counts once. -/
mutual
def uptoBulk {H : Type} : DataW H → Nat
  | .lit (.string bytes) => bytes.length + 1
  | .lit _ => 1
  | .nil => 1
  | .ptr d => uptoBulk d + 1
  | .slice elems spare => uptoBulkAll elems + uptoBulkAll spare + 1
  | .agg parts => uptoBulkAll parts + 1
  | .iface _ d => uptoBulk d + 1
  | .map entries => uptoBulkEntries entries + 1
  | .held _ => 1
def uptoBulkAll {H : Type} : List (DataW H) → Nat
  | [] => 0
  | d :: r => uptoBulk d + uptoBulkAll r
def uptoBulkEntries {H : Type} : List (Lit × DataW H) → Nat
  | [] => 0
  | x :: r => uptoBulkEntry x + uptoBulkEntries r
def uptoBulkEntry {H : Type} : Lit × DataW H → Nat
  | (.string bytes, d) => bytes.length + uptoBulk d + 1
  | (_, d) => uptoBulk d + 1
 end
def uptoSmall : (H : Type) → List (DataW H) → Bool := fun _ ds => decide (uptoBulkAll ds ≤ 1048576)
def OpenSpec.upto (s : _root_.Go.ChangeSpec) : _root_.Go.OpenSpec := { _root_.Go.OpenSpec.ofChange s with cond := some uptoSmall }

/-- 'userplanelaw04.GoldInits', WHERE WHAT IT READS IS OF BULK AT MOST 1048576: true; the input reads as it did. -/
def goldInitsUptoRow : OpenClaim := { program := "ytmiaddcjedjjdaa", sum := "b985fc1439b7e2421e3d5aec6fd7fc67216c1add4a433cb1a571aaadaf3bba75", func := "userplane/userplanelaw04.GoldInits", spec := "goldInits", unfollowed := true, recurses := true, apart := false, narrowed := true }
def GoldInitsUptoSaid : Prop := goldInitsUptoRow.holds Try.pinned (OpenSpec.upto goldInitsSpec)

/-- 'userplanelaw04.GoldSequences', WHERE WHAT IT READS IS OF BULK AT MOST 1048576: true; the input reads as it did. -/
def goldSequencesUptoRow : OpenClaim := { program := "ytmiaddcjedjjdaa", sum := "b985fc1439b7e2421e3d5aec6fd7fc67216c1add4a433cb1a571aaadaf3bba75", func := "userplane/userplanelaw04.GoldSequences", spec := "goldSequences", unfollowed := true, recurses := true, apart := false, narrowed := true }
def GoldSequencesUptoSaid : Prop := goldSequencesUptoRow.holds Try.pinned (OpenSpec.upto goldSequencesSpec)

/-- 'userplanelaw04.GoldIterates', WHERE WHAT IT READS IS OF BULK AT MOST 1048576: true; the input reads as it did. -/
def goldIteratesUptoRow : OpenClaim := { program := "ytmiaddcjedjjdaa", sum := "b985fc1439b7e2421e3d5aec6fd7fc67216c1add4a433cb1a571aaadaf3bba75", func := "userplane/userplanelaw04.GoldIterates", spec := "goldIterates", unfollowed := true, recurses := true, apart := false, narrowed := true }
def GoldIteratesUptoSaid : Prop := goldIteratesUptoRow.holds Try.pinned (OpenSpec.upto goldIteratesSpec)

/-- 'userplanelaw04.GoldScrambles', WHERE WHAT IT READS IS OF BULK AT MOST 1048576: true; the input reads as it did. -/
def goldScramblesUptoRow : OpenClaim := { program := "ytmiaddcjedjjdaa", sum := "b985fc1439b7e2421e3d5aec6fd7fc67216c1add4a433cb1a571aaadaf3bba75", func := "userplane/userplanelaw04.GoldScrambles", spec := "goldScrambles", unfollowed := true, recurses := true, apart := false, narrowed := true }
def GoldScramblesUptoSaid : Prop := goldScramblesUptoRow.holds Try.pinned (OpenSpec.upto goldScramblesSpec)

/-- 'userplanelaw04.GoldApart', WHERE WHAT IT READS IS OF BULK AT MOST 1048576: true; the input reads as it did. -/
def goldApartUptoRow : OpenClaim := { program := "ytmiaddcjedjjdaa", sum := "b985fc1439b7e2421e3d5aec6fd7fc67216c1add4a433cb1a571aaadaf3bba75", func := "userplane/userplanelaw04.GoldApart", spec := "goldApart", unfollowed := true, recurses := true, apart := false, narrowed := true }
def GoldApartUptoSaid : Prop := goldApartUptoRow.holds Try.pinned (OpenSpec.upto goldApartSpec)

/-- 'userplanelaw04.GoldLinear', WHERE WHAT IT READS IS OF BULK AT MOST 1048576: true; the input reads as it did. -/
def goldLinearUptoRow : OpenClaim := { program := "ytmiaddcjedjjdaa", sum := "b985fc1439b7e2421e3d5aec6fd7fc67216c1add4a433cb1a571aaadaf3bba75", func := "userplane/userplanelaw04.GoldLinear", spec := "goldLinear", unfollowed := true, recurses := true, apart := false, narrowed := true }
def GoldLinearUptoSaid : Prop := goldLinearUptoRow.holds Try.pinned (OpenSpec.upto goldLinearSpec)

/-- 'userplanelaw04.GoldSofts', WHERE WHAT IT READS IS OF BULK AT MOST 1048576: true; the input reads as it did. -/
def goldSoftsUptoRow : OpenClaim := { program := "ytmiaddcjedjjdaa", sum := "b985fc1439b7e2421e3d5aec6fd7fc67216c1add4a433cb1a571aaadaf3bba75", func := "userplane/userplanelaw04.GoldSofts", spec := "goldSofts", unfollowed := true, recurses := true, apart := false, narrowed := true }
def GoldSoftsUptoSaid : Prop := goldSoftsUptoRow.holds Try.pinned (OpenSpec.upto goldSoftsSpec)

/-- 'userplanelaw04.GoldTwice', WHERE WHAT IT READS IS OF BULK AT MOST 1048576: true; the input reads as it did. -/
def goldTwiceUptoRow : OpenClaim := { program := "ytmiaddcjedjjdaa", sum := "b985fc1439b7e2421e3d5aec6fd7fc67216c1add4a433cb1a571aaadaf3bba75", func := "userplane/userplanelaw04.GoldTwice", spec := "goldTwice", unfollowed := true, recurses := true, apart := false, narrowed := true }
def GoldTwiceUptoSaid : Prop := goldTwiceUptoRow.holds Try.pinned (OpenSpec.upto goldTwiceSpec)

/-- 'userplanelaw04.GoldMost', WHERE WHAT IT READS IS OF BULK AT MOST 1048576: true; the input reads as it did. -/
def goldMostUptoRow : OpenClaim := { program := "ytmiaddcjedjjdaa", sum := "b985fc1439b7e2421e3d5aec6fd7fc67216c1add4a433cb1a571aaadaf3bba75", func := "userplane/userplanelaw04.GoldMost", spec := "goldMost", unfollowed := true, recurses := true, apart := false, narrowed := true }
def GoldMostUptoSaid : Prop := goldMostUptoRow.holds Try.pinned (OpenSpec.upto goldMostSpec)

end Rows
end Go.Proofs.Ytmiaddcjedjjdaa

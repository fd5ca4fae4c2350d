/-
  No cell of these rows narrows 'for every input' (looked for: loops, veiled, ifaces, maps, wideKeys, modest, calm, conditions, laid).
  DERIVED. THE GIVEN ROWS OF THIS SEAT. 7 by the template 'for every input the law returns true; each argument reads behind the call as it read before'; 0 by the template 'total and deterministic' (their statements: YtloldjmibjkkkaaTotals.lean).
  GIVEN WITH THE SEED: the statements are not yours to turn. If you find one false, say at which input.
  Laid BY PROGRAM, IN A SANDBOX (cutbox-rows.mjs): the forced cells as the released guide's own fill.sh prints them over the translation 47c0373b63a2ec67… (all of the seat's roots in one cut). By AI agents, Wed Nov 11 2026. No macro, syntax, notation, axiom, sorry.
-/
import Derived.Test.YtloldjmibjkkkaaChecked
import GoSem.Claim
import GoSem.ClaimJoined
import GoSem.ClaimMapViews
import Derived.JoinedTies
import Derived.KernelRfl
namespace Go.Proofs.Ytloldjmibjkkkaa
/- THE CELL 'sum', in the pinned program and in every row, IS THE sha256 OF THE DUMP (.gsa) THAT YtloldjmibjkkkaaProg.lean LOADS. Nothing in Lean hashes anything: it is a label: what it is worth is what the hold of that sum in a sandbox is worth. -/
noncomputable def Try.pinned : Pinned := { name := "ytloldjmibjkkkaa", sum := "47c0373b63a2ec67fe9d2e0aa083fae44c246c9df9e8137022db2889ff4ee95a", checked := Try.checked }
namespace Rows
def none {H : Type} : Left H := { results := [], args := [] }

/-- 'userplanelaw10.RatematchBuffers': WHATEVER THE INPUT: true; the input reads as it did. -/
def ratematchBuffersSpec : ChangeSpec := { name := "ratematchBuffers", fn := fun _ => fun
  | [d1, d2, d3] => { results := [.lit (.bool true)], args := [d1, d2, d3] }
  | _ => none }
def ratematchBuffersRow : OpenClaim := { program := "ytloldjmibjkkkaa", sum := "47c0373b63a2ec67fe9d2e0aa083fae44c246c9df9e8137022db2889ff4ee95a", func := "userplane/userplanelaw10.RatematchBuffers", spec := "ratematchBuffers", unfollowed := true, recurses := true, apart := false }
def RatematchBuffersSaid : Prop := ratematchBuffersRow.holds Try.pinned (OpenSpec.ofChange ratematchBuffersSpec)

/-- ITS FALSE NEIGHBOUR: 'it returns false'. Refute it at one input. -/
def ratematchBuffersWrong : ChangeSpec := { name := "ratematchBuffers", fn := fun _ => fun
  | [d1, d2, d3] => { results := [.lit (.bool false)], args := [d1, d2, d3] }
  | _ => none }
def RatematchBuffersWrongFalsely : Prop := ratematchBuffersRow.holds Try.pinned (OpenSpec.ofChange ratematchBuffersWrong)

/-- 'userplanelaw10.RatematchStarts': WHATEVER THE INPUT: true; the input reads as it did. -/
def ratematchStartsSpec : ChangeSpec := { name := "ratematchStarts", fn := fun _ => fun
  | [d1, d2, d3] => { results := [.lit (.bool true)], args := [d1, d2, d3] }
  | _ => none }
def ratematchStartsRow : OpenClaim := { program := "ytloldjmibjkkkaa", sum := "47c0373b63a2ec67fe9d2e0aa083fae44c246c9df9e8137022db2889ff4ee95a", func := "userplane/userplanelaw10.RatematchStarts", spec := "ratematchStarts", unfollowed := true, recurses := true, apart := false }
def RatematchStartsSaid : Prop := ratematchStartsRow.holds Try.pinned (OpenSpec.ofChange ratematchStartsSpec)

/-- ITS FALSE NEIGHBOUR: 'it returns false'. Refute it at one input. -/
def ratematchStartsWrong : ChangeSpec := { name := "ratematchStarts", fn := fun _ => fun
  | [d1, d2, d3] => { results := [.lit (.bool false)], args := [d1, d2, d3] }
  | _ => none }
def RatematchStartsWrongFalsely : Prop := ratematchStartsRow.holds Try.pinned (OpenSpec.ofChange ratematchStartsWrong)

/-- 'userplanelaw10.RatematchPositions': WHATEVER THE INPUT: true; the input reads as it did. -/
def ratematchPositionsSpec : ChangeSpec := { name := "ratematchPositions", fn := fun _ => fun
  | [d1, d2, d3, d4, d5] => { results := [.lit (.bool true)], args := [d1, d2, d3, d4, d5] }
  | _ => none }
def ratematchPositionsRow : OpenClaim := { program := "ytloldjmibjkkkaa", sum := "47c0373b63a2ec67fe9d2e0aa083fae44c246c9df9e8137022db2889ff4ee95a", func := "userplane/userplanelaw10.RatematchPositions", spec := "ratematchPositions", unfollowed := true, recurses := true, apart := false }
def RatematchPositionsSaid : Prop := ratematchPositionsRow.holds Try.pinned (OpenSpec.ofChange ratematchPositionsSpec)

/-- ITS FALSE NEIGHBOUR: 'it returns false'. Refute it at one input. -/
def ratematchPositionsWrong : ChangeSpec := { name := "ratematchPositions", fn := fun _ => fun
  | [d1, d2, d3, d4, d5] => { results := [.lit (.bool false)], args := [d1, d2, d3, d4, d5] }
  | _ => none }
def RatematchPositionsWrongFalsely : Prop := ratematchPositionsRow.holds Try.pinned (OpenSpec.ofChange ratematchPositionsWrong)

/-- 'userplanelaw10.RatematchCovers': WHATEVER THE INPUT: true; the input reads as it did. -/
def ratematchCoversSpec : ChangeSpec := { name := "ratematchCovers", fn := fun _ => fun
  | [d1, d2, d3, d4, d5] => { results := [.lit (.bool true)], args := [d1, d2, d3, d4, d5] }
  | _ => none }
def ratematchCoversRow : OpenClaim := { program := "ytloldjmibjkkkaa", sum := "47c0373b63a2ec67fe9d2e0aa083fae44c246c9df9e8137022db2889ff4ee95a", func := "userplane/userplanelaw10.RatematchCovers", spec := "ratematchCovers", unfollowed := true, recurses := true, apart := false }
def RatematchCoversSaid : Prop := ratematchCoversRow.holds Try.pinned (OpenSpec.ofChange ratematchCoversSpec)

/-- ITS FALSE NEIGHBOUR: 'it returns false'. Refute it at one input. -/
def ratematchCoversWrong : ChangeSpec := { name := "ratematchCovers", fn := fun _ => fun
  | [d1, d2, d3, d4, d5] => { results := [.lit (.bool false)], args := [d1, d2, d3, d4, d5] }
  | _ => none }
def RatematchCoversWrongFalsely : Prop := ratematchCoversRow.holds Try.pinned (OpenSpec.ofChange ratematchCoversWrong)

/-- 'userplanelaw10.RatematchFollows': WHATEVER THE INPUT: true; the input reads as it did. -/
def ratematchFollowsSpec : ChangeSpec := { name := "ratematchFollows", fn := fun _ => fun
  | [d1, d2, d3, d4, d5, d6] => { results := [.lit (.bool true)], args := [d1, d2, d3, d4, d5, d6] }
  | _ => none }
def ratematchFollowsRow : OpenClaim := { program := "ytloldjmibjkkkaa", sum := "47c0373b63a2ec67fe9d2e0aa083fae44c246c9df9e8137022db2889ff4ee95a", func := "userplane/userplanelaw10.RatematchFollows", spec := "ratematchFollows", unfollowed := true, recurses := true, apart := false }
def RatematchFollowsSaid : Prop := ratematchFollowsRow.holds Try.pinned (OpenSpec.ofChange ratematchFollowsSpec)

/-- ITS FALSE NEIGHBOUR: 'it returns false'. Refute it at one input. -/
def ratematchFollowsWrong : ChangeSpec := { name := "ratematchFollows", fn := fun _ => fun
  | [d1, d2, d3, d4, d5, d6] => { results := [.lit (.bool false)], args := [d1, d2, d3, d4, d5, d6] }
  | _ => none }
def RatematchFollowsWrongFalsely : Prop := ratematchFollowsRow.holds Try.pinned (OpenSpec.ofChange ratematchFollowsWrong)

/-- 'userplanelaw10.RatematchFull': WHATEVER THE INPUT: true; the input reads as it did. -/
def ratematchFullSpec : ChangeSpec := { name := "ratematchFull", fn := fun _ => fun
  | [d1, d2] => { results := [.lit (.bool true)], args := [d1, d2] }
  | _ => none }
def ratematchFullRow : OpenClaim := { program := "ytloldjmibjkkkaa", sum := "47c0373b63a2ec67fe9d2e0aa083fae44c246c9df9e8137022db2889ff4ee95a", func := "userplane/userplanelaw10.RatematchFull", spec := "ratematchFull", unfollowed := true, recurses := true, apart := false }
def RatematchFullSaid : Prop := ratematchFullRow.holds Try.pinned (OpenSpec.ofChange ratematchFullSpec)

/-- ITS FALSE NEIGHBOUR: 'it returns false'. Refute it at one input. -/
def ratematchFullWrong : ChangeSpec := { name := "ratematchFull", fn := fun _ => fun
  | [d1, d2] => { results := [.lit (.bool false)], args := [d1, d2] }
  | _ => none }
def RatematchFullWrongFalsely : Prop := ratematchFullRow.holds Try.pinned (OpenSpec.ofChange ratematchFullWrong)

/-- 'userplanelaw10.RatematchMost': WHATEVER THE INPUT: true; the input reads as it did. -/
def ratematchMostSpec : ChangeSpec := { name := "ratematchMost", fn := fun _ => fun
  | [d1, d2] => { results := [.lit (.bool true)], args := [d1, d2] }
  | _ => none }
def ratematchMostRow : OpenClaim := { program := "ytloldjmibjkkkaa", sum := "47c0373b63a2ec67fe9d2e0aa083fae44c246c9df9e8137022db2889ff4ee95a", func := "userplane/userplanelaw10.RatematchMost", spec := "ratematchMost", unfollowed := true, recurses := true, apart := false }
def RatematchMostSaid : Prop := ratematchMostRow.holds Try.pinned (OpenSpec.ofChange ratematchMostSpec)

/-- ITS FALSE NEIGHBOUR: 'it returns false'. Refute it at one input. -/
def ratematchMostWrong : ChangeSpec := { name := "ratematchMost", fn := fun _ => fun
  | [d1, d2] => { results := [.lit (.bool false)], args := [d1, d2] }
  | _ => none }
def RatematchMostWrongFalsely : Prop := ratematchMostRow.holds Try.pinned (OpenSpec.ofChange ratematchMostWrong)

/- THE SECOND FORM. 'bulk': how many values and letters a reading holds, each counted each time it is reached (what is shared counts as often as it is met; a slice's spare places count too). A statement '..UptoSaid' is the law's where the arguments, and the package variables that the reading takes, are together of bulk at most 1048576: NARROWER than '..Said'. Prove '..Said' where nothing that the law and all that it calls make is longer than what came in: it says more and counts as full. Else prove '..UptoSaid'. A law counts once. -/
mutual
def uptoBulk {H : Type} : DataW H → Nat
  | .lit (.string bytes) => bytes.length + 1
  | .lit _ => 1
  | .nil => 1
  | .ptr d => uptoBulk d + 1
  | .slice elems spare => uptoBulkAll elems + uptoBulkAll spare + 1
  | .agg parts => uptoBulkAll parts + 1
  | .iface _ d => uptoBulk d + 1
  | .map entries => uptoBulkEntries entries + 1
  | .held _ => 1
def uptoBulkAll {H : Type} : List (DataW H) → Nat
  | [] => 0
  | d :: r => uptoBulk d + uptoBulkAll r
def uptoBulkEntries {H : Type} : List (Lit × DataW H) → Nat
  | [] => 0
  | x :: r => uptoBulkEntry x + uptoBulkEntries r
def uptoBulkEntry {H : Type} : Lit × DataW H → Nat
  | (.string bytes, d) => bytes.length + uptoBulk d + 1
  | (_, d) => uptoBulk d + 1
 end
def uptoSmall : (H : Type) → List (DataW H) → Bool := fun _ ds => decide (uptoBulkAll ds ≤ 1048576)
def OpenSpec.upto (s : _root_.Go.ChangeSpec) : _root_.Go.OpenSpec := { _root_.Go.OpenSpec.ofChange s with cond := some uptoSmall }

/-- 'userplanelaw10.RatematchBuffers', WHERE WHAT IT READS IS OF BULK AT MOST 1048576: true; the input reads as it did. -/
def ratematchBuffersUptoRow : OpenClaim := { program := "ytloldjmibjkkkaa", sum := "47c0373b63a2ec67fe9d2e0aa083fae44c246c9df9e8137022db2889ff4ee95a", func := "userplane/userplanelaw10.RatematchBuffers", spec := "ratematchBuffers", unfollowed := true, recurses := true, apart := false, narrowed := true }
def RatematchBuffersUptoSaid : Prop := ratematchBuffersUptoRow.holds Try.pinned (OpenSpec.upto ratematchBuffersSpec)

/-- 'userplanelaw10.RatematchStarts', WHERE WHAT IT READS IS OF BULK AT MOST 1048576: true; the input reads as it did. -/
def ratematchStartsUptoRow : OpenClaim := { program := "ytloldjmibjkkkaa", sum := "47c0373b63a2ec67fe9d2e0aa083fae44c246c9df9e8137022db2889ff4ee95a", func := "userplane/userplanelaw10.RatematchStarts", spec := "ratematchStarts", unfollowed := true, recurses := true, apart := false, narrowed := true }
def RatematchStartsUptoSaid : Prop := ratematchStartsUptoRow.holds Try.pinned (OpenSpec.upto ratematchStartsSpec)

/-- 'userplanelaw10.RatematchPositions', WHERE WHAT IT READS IS OF BULK AT MOST 1048576: true; the input reads as it did. -/
def ratematchPositionsUptoRow : OpenClaim := { program := "ytloldjmibjkkkaa", sum := "47c0373b63a2ec67fe9d2e0aa083fae44c246c9df9e8137022db2889ff4ee95a", func := "userplane/userplanelaw10.RatematchPositions", spec := "ratematchPositions", unfollowed := true, recurses := true, apart := false, narrowed := true }
def RatematchPositionsUptoSaid : Prop := ratematchPositionsUptoRow.holds Try.pinned (OpenSpec.upto ratematchPositionsSpec)

/-- 'userplanelaw10.RatematchCovers', WHERE WHAT IT READS IS OF BULK AT MOST 1048576: true; the input reads as it did. -/
def ratematchCoversUptoRow : OpenClaim := { program := "ytloldjmibjkkkaa", sum := "47c0373b63a2ec67fe9d2e0aa083fae44c246c9df9e8137022db2889ff4ee95a", func := "userplane/userplanelaw10.RatematchCovers", spec := "ratematchCovers", unfollowed := true, recurses := true, apart := false, narrowed := true }
def RatematchCoversUptoSaid : Prop := ratematchCoversUptoRow.holds Try.pinned (OpenSpec.upto ratematchCoversSpec)

/-- 'userplanelaw10.RatematchFollows', WHERE WHAT IT READS IS OF BULK AT MOST 1048576: true; the input reads as it did. -/
def ratematchFollowsUptoRow : OpenClaim := { program := "ytloldjmibjkkkaa", sum := "47c0373b63a2ec67fe9d2e0aa083fae44c246c9df9e8137022db2889ff4ee95a", func := "userplane/userplanelaw10.RatematchFollows", spec := "ratematchFollows", unfollowed := true, recurses := true, apart := false, narrowed := true }
def RatematchFollowsUptoSaid : Prop := ratematchFollowsUptoRow.holds Try.pinned (OpenSpec.upto ratematchFollowsSpec)

/-- 'userplanelaw10.RatematchFull', WHERE WHAT IT READS IS OF BULK AT MOST 1048576: true; the input reads as it did. -/
def ratematchFullUptoRow : OpenClaim := { program := "ytloldjmibjkkkaa", sum := "47c0373b63a2ec67fe9d2e0aa083fae44c246c9df9e8137022db2889ff4ee95a", func := "userplane/userplanelaw10.RatematchFull", spec := "ratematchFull", unfollowed := true, recurses := true, apart := false, narrowed := true }
def RatematchFullUptoSaid : Prop := ratematchFullUptoRow.holds Try.pinned (OpenSpec.upto ratematchFullSpec)

/-- 'userplanelaw10.RatematchMost', WHERE WHAT IT READS IS OF BULK AT MOST 1048576: true; the input reads as it did. -/
def ratematchMostUptoRow : OpenClaim := { program := "ytloldjmibjkkkaa", sum := "47c0373b63a2ec67fe9d2e0aa083fae44c246c9df9e8137022db2889ff4ee95a", func := "userplane/userplanelaw10.RatematchMost", spec := "ratematchMost", unfollowed := true, recurses := true, apart := false, narrowed := true }
def RatematchMostUptoSaid : Prop := ratematchMostUptoRow.holds Try.pinned (OpenSpec.upto ratematchMostSpec)

end Rows
end Go.Proofs.Ytloldjmibjkkkaa

/-
  No cell of these rows narrows 'for every input' (looked for: loops, veiled, ifaces, maps, wideKeys, modest, calm, conditions, laid).
  DERIVED. THE GIVEN ROWS OF THIS SEAT. 7 by the template 'for every input the law returns true; each argument reads behind the call as it read before'; 0 by the template 'total and deterministic' (their statements: YtmbjcpppbgapbaaTotals.lean).
  GIVEN WITH THE SEED: the statements are not yours to turn. If you find one false, say at which input.
  Laid BY PROGRAM, IN A SANDBOX (cutbox-rows.mjs): the forced cells as the released guide's own fill.sh prints them over the translation 918ea3992d50b570… (all of the seat's roots in one cut). By AI agents, Wed Nov 11 2026. No macro, syntax, notation, axiom, sorry.
-/
import Derived.Test.YtmbjcpppbgapbaaChecked
import GoSem.Claim
import GoSem.ClaimJoined
import GoSem.ClaimMapViews
import Derived.JoinedTies
import Derived.KernelRfl
namespace Go.Proofs.Ytmbjcpppbgapbaa
/- THE CELL 'sum', in the pinned program and in every row, IS THE sha256 OF THE DUMP (.gsa) THAT YtmbjcpppbgapbaaProg.lean LOADS. Nothing in Lean hashes anything: it is a label: what it is worth is what the hold of that sum in a sandbox is worth. -/
noncomputable def Try.pinned : Pinned := { name := "ytmbjcpppbgapbaa", sum := "918ea3992d50b57067d8044c0359e347cef8cd7b63258e034ee04e3c30232516", checked := Try.checked }
namespace Rows
def none {H : Type} : Left H := { results := [], args := [] }

/-- 'userplanelaw11.SoftAdds': WHATEVER THE INPUT: true; the input reads as it did. -/
def softAddsSpec : ChangeSpec := { name := "softAdds", fn := fun _ => fun
  | [d1, d2] => { results := [.lit (.bool true)], args := [d1, d2] }
  | _ => none }
def softAddsRow : OpenClaim := { program := "ytmbjcpppbgapbaa", sum := "918ea3992d50b57067d8044c0359e347cef8cd7b63258e034ee04e3c30232516", func := "userplane/userplanelaw11.SoftAdds", spec := "softAdds", unfollowed := true, recurses := true, apart := false }
def SoftAddsSaid : Prop := softAddsRow.holds Try.pinned (OpenSpec.ofChange softAddsSpec)

/-- ITS FALSE NEIGHBOUR: 'it returns false'. Refute it at one input. -/
def softAddsWrong : ChangeSpec := { name := "softAdds", fn := fun _ => fun
  | [d1, d2] => { results := [.lit (.bool false)], args := [d1, d2] }
  | _ => none }
def SoftAddsWrongFalsely : Prop := softAddsRow.holds Try.pinned (OpenSpec.ofChange softAddsWrong)

/-- 'userplanelaw11.SoftSums': WHATEVER THE INPUT: true; the input reads as it did. -/
def softSumsSpec : ChangeSpec := { name := "softSums", fn := fun _ => fun
  | [d1, d2] => { results := [.lit (.bool true)], args := [d1, d2] }
  | _ => none }
def softSumsRow : OpenClaim := { program := "ytmbjcpppbgapbaa", sum := "918ea3992d50b57067d8044c0359e347cef8cd7b63258e034ee04e3c30232516", func := "userplane/userplanelaw11.SoftSums", spec := "softSums", unfollowed := true, recurses := true, apart := false }
def SoftSumsSaid : Prop := softSumsRow.holds Try.pinned (OpenSpec.ofChange softSumsSpec)

/-- ITS FALSE NEIGHBOUR: 'it returns false'. Refute it at one input. -/
def softSumsWrong : ChangeSpec := { name := "softSums", fn := fun _ => fun
  | [d1, d2] => { results := [.lit (.bool false)], args := [d1, d2] }
  | _ => none }
def SoftSumsWrongFalsely : Prop := softSumsRow.holds Try.pinned (OpenSpec.ofChange softSumsWrong)

/-- 'userplanelaw11.SoftScales': WHATEVER THE INPUT: true; the input reads as it did. -/
def softScalesSpec : ChangeSpec := { name := "softScales", fn := fun _ => fun
  | [d1, d2, d3] => { results := [.lit (.bool true)], args := [d1, d2, d3] }
  | _ => none }
def softScalesRow : OpenClaim := { program := "ytmbjcpppbgapbaa", sum := "918ea3992d50b57067d8044c0359e347cef8cd7b63258e034ee04e3c30232516", func := "userplane/userplanelaw11.SoftScales", spec := "softScales", unfollowed := true, recurses := true, apart := false }
def SoftScalesSaid : Prop := softScalesRow.holds Try.pinned (OpenSpec.ofChange softScalesSpec)

/-- ITS FALSE NEIGHBOUR: 'it returns false'. Refute it at one input. -/
def softScalesWrong : ChangeSpec := { name := "softScales", fn := fun _ => fun
  | [d1, d2, d3] => { results := [.lit (.bool false)], args := [d1, d2, d3] }
  | _ => none }
def SoftScalesWrongFalsely : Prop := softScalesRow.holds Try.pinned (OpenSpec.ofChange softScalesWrong)

/-- 'userplanelaw11.SoftHards': WHATEVER THE INPUT: true; the input reads as it did. -/
def softHardsSpec : ChangeSpec := { name := "softHards", fn := fun _ => fun
  | [d1, d2, d3] => { results := [.lit (.bool true)], args := [d1, d2, d3] }
  | _ => none }
def softHardsRow : OpenClaim := { program := "ytmbjcpppbgapbaa", sum := "918ea3992d50b57067d8044c0359e347cef8cd7b63258e034ee04e3c30232516", func := "userplane/userplanelaw11.SoftHards", spec := "softHards", unfollowed := true, recurses := true, apart := false }
def SoftHardsSaid : Prop := softHardsRow.holds Try.pinned (OpenSpec.ofChange softHardsSpec)

/-- ITS FALSE NEIGHBOUR: 'it returns false'. Refute it at one input. -/
def softHardsWrong : ChangeSpec := { name := "softHards", fn := fun _ => fun
  | [d1, d2, d3] => { results := [.lit (.bool false)], args := [d1, d2, d3] }
  | _ => none }
def SoftHardsWrongFalsely : Prop := softHardsRow.holds Try.pinned (OpenSpec.ofChange softHardsWrong)

/-- 'userplanelaw11.SoftCompares': WHATEVER THE INPUT: true; the input reads as it did. -/
def softComparesSpec : ChangeSpec := { name := "softCompares", fn := fun _ => fun
  | [d1, d2] => { results := [.lit (.bool true)], args := [d1, d2] }
  | _ => none }
def softComparesRow : OpenClaim := { program := "ytmbjcpppbgapbaa", sum := "918ea3992d50b57067d8044c0359e347cef8cd7b63258e034ee04e3c30232516", func := "userplane/userplanelaw11.SoftCompares", spec := "softCompares", unfollowed := true, recurses := true, apart := false }
def SoftComparesSaid : Prop := softComparesRow.holds Try.pinned (OpenSpec.ofChange softComparesSpec)

/-- ITS FALSE NEIGHBOUR: 'it returns false'. Refute it at one input. -/
def softComparesWrong : ChangeSpec := { name := "softCompares", fn := fun _ => fun
  | [d1, d2] => { results := [.lit (.bool false)], args := [d1, d2] }
  | _ => none }
def SoftComparesWrongFalsely : Prop := softComparesRow.holds Try.pinned (OpenSpec.ofChange softComparesWrong)

/-- 'userplanelaw11.SoftHolds': WHATEVER THE INPUT: true; the input reads as it did. -/
def softHoldsSpec : ChangeSpec := { name := "softHolds", fn := fun _ => fun
  | [d1, d2, d3, d4, d5, d6] => { results := [.lit (.bool true)], args := [d1, d2, d3, d4, d5, d6] }
  | _ => none }
def softHoldsRow : OpenClaim := { program := "ytmbjcpppbgapbaa", sum := "918ea3992d50b57067d8044c0359e347cef8cd7b63258e034ee04e3c30232516", func := "userplane/userplanelaw11.SoftHolds", spec := "softHolds", unfollowed := true, recurses := true, apart := false }
def SoftHoldsSaid : Prop := softHoldsRow.holds Try.pinned (OpenSpec.ofChange softHoldsSpec)

/-- ITS FALSE NEIGHBOUR: 'it returns false'. Refute it at one input. -/
def softHoldsWrong : ChangeSpec := { name := "softHolds", fn := fun _ => fun
  | [d1, d2, d3, d4, d5, d6] => { results := [.lit (.bool false)], args := [d1, d2, d3, d4, d5, d6] }
  | _ => none }
def SoftHoldsWrongFalsely : Prop := softHoldsRow.holds Try.pinned (OpenSpec.ofChange softHoldsWrong)

/-- 'userplanelaw11.SoftSigns': WHATEVER THE INPUT: true; the input reads as it did. -/
def softSignsSpec : ChangeSpec := { name := "softSigns", fn := fun _ => fun
  | [d1, d2] => { results := [.lit (.bool true)], args := [d1, d2] }
  | _ => none }
def softSignsRow : OpenClaim := { program := "ytmbjcpppbgapbaa", sum := "918ea3992d50b57067d8044c0359e347cef8cd7b63258e034ee04e3c30232516", func := "userplane/userplanelaw11.SoftSigns", spec := "softSigns", unfollowed := true, recurses := true, apart := false }
def SoftSignsSaid : Prop := softSignsRow.holds Try.pinned (OpenSpec.ofChange softSignsSpec)

/-- ITS FALSE NEIGHBOUR: 'it returns false'. Refute it at one input. -/
def softSignsWrong : ChangeSpec := { name := "softSigns", fn := fun _ => fun
  | [d1, d2] => { results := [.lit (.bool false)], args := [d1, d2] }
  | _ => none }
def SoftSignsWrongFalsely : Prop := softSignsRow.holds Try.pinned (OpenSpec.ofChange softSignsWrong)

/- THE SECOND FORM. 'bulk': how many values and letters a reading holds, each counted each time it is reached (what is shared counts as often as it is met; a slice's spare places count too). A statement '..UptoSaid' is the law's where the arguments, and the package variables that the reading takes, are together of bulk at most 1048576: NARROWER than '..Said'. Prove '..Said' where nothing that the law and all that it calls make is longer than what came in: it says more and counts as full. Else prove '..UptoSaid'. A law counts once. -/
mutual
def uptoBulk {H : Type} : DataW H → Nat
  | .lit (.string bytes) => bytes.length + 1
  | .lit _ => 1
  | .nil => 1
  | .ptr d => uptoBulk d + 1
  | .slice elems spare => uptoBulkAll elems + uptoBulkAll spare + 1
  | .agg parts => uptoBulkAll parts + 1
  | .iface _ d => uptoBulk d + 1
  | .map entries => uptoBulkEntries entries + 1
  | .held _ => 1
def uptoBulkAll {H : Type} : List (DataW H) → Nat
  | [] => 0
  | d :: r => uptoBulk d + uptoBulkAll r
def uptoBulkEntries {H : Type} : List (Lit × DataW H) → Nat
  | [] => 0
  | x :: r => uptoBulkEntry x + uptoBulkEntries r
def uptoBulkEntry {H : Type} : Lit × DataW H → Nat
  | (.string bytes, d) => bytes.length + uptoBulk d + 1
  | (_, d) => uptoBulk d + 1
 end
def uptoSmall : (H : Type) → List (DataW H) → Bool := fun _ ds => decide (uptoBulkAll ds ≤ 1048576)
def OpenSpec.upto (s : _root_.Go.ChangeSpec) : _root_.Go.OpenSpec := { _root_.Go.OpenSpec.ofChange s with cond := some uptoSmall }

/-- 'userplanelaw11.SoftAdds', WHERE WHAT IT READS IS OF BULK AT MOST 1048576: true; the input reads as it did. -/
def softAddsUptoRow : OpenClaim := { program := "ytmbjcpppbgapbaa", sum := "918ea3992d50b57067d8044c0359e347cef8cd7b63258e034ee04e3c30232516", func := "userplane/userplanelaw11.SoftAdds", spec := "softAdds", unfollowed := true, recurses := true, apart := false, narrowed := true }
def SoftAddsUptoSaid : Prop := softAddsUptoRow.holds Try.pinned (OpenSpec.upto softAddsSpec)

/-- 'userplanelaw11.SoftSums', WHERE WHAT IT READS IS OF BULK AT MOST 1048576: true; the input reads as it did. -/
def softSumsUptoRow : OpenClaim := { program := "ytmbjcpppbgapbaa", sum := "918ea3992d50b57067d8044c0359e347cef8cd7b63258e034ee04e3c30232516", func := "userplane/userplanelaw11.SoftSums", spec := "softSums", unfollowed := true, recurses := true, apart := false, narrowed := true }
def SoftSumsUptoSaid : Prop := softSumsUptoRow.holds Try.pinned (OpenSpec.upto softSumsSpec)

/-- 'userplanelaw11.SoftScales', WHERE WHAT IT READS IS OF BULK AT MOST 1048576: true; the input reads as it did. -/
def softScalesUptoRow : OpenClaim := { program := "ytmbjcpppbgapbaa", sum := "918ea3992d50b57067d8044c0359e347cef8cd7b63258e034ee04e3c30232516", func := "userplane/userplanelaw11.SoftScales", spec := "softScales", unfollowed := true, recurses := true, apart := false, narrowed := true }
def SoftScalesUptoSaid : Prop := softScalesUptoRow.holds Try.pinned (OpenSpec.upto softScalesSpec)

/-- 'userplanelaw11.SoftHards', WHERE WHAT IT READS IS OF BULK AT MOST 1048576: true; the input reads as it did. -/
def softHardsUptoRow : OpenClaim := { program := "ytmbjcpppbgapbaa", sum := "918ea3992d50b57067d8044c0359e347cef8cd7b63258e034ee04e3c30232516", func := "userplane/userplanelaw11.SoftHards", spec := "softHards", unfollowed := true, recurses := true, apart := false, narrowed := true }
def SoftHardsUptoSaid : Prop := softHardsUptoRow.holds Try.pinned (OpenSpec.upto softHardsSpec)

/-- 'userplanelaw11.SoftCompares', WHERE WHAT IT READS IS OF BULK AT MOST 1048576: true; the input reads as it did. -/
def softComparesUptoRow : OpenClaim := { program := "ytmbjcpppbgapbaa", sum := "918ea3992d50b57067d8044c0359e347cef8cd7b63258e034ee04e3c30232516", func := "userplane/userplanelaw11.SoftCompares", spec := "softCompares", unfollowed := true, recurses := true, apart := false, narrowed := true }
def SoftComparesUptoSaid : Prop := softComparesUptoRow.holds Try.pinned (OpenSpec.upto softComparesSpec)

/-- 'userplanelaw11.SoftHolds', WHERE WHAT IT READS IS OF BULK AT MOST 1048576: true; the input reads as it did. -/
def softHoldsUptoRow : OpenClaim := { program := "ytmbjcpppbgapbaa", sum := "918ea3992d50b57067d8044c0359e347cef8cd7b63258e034ee04e3c30232516", func := "userplane/userplanelaw11.SoftHolds", spec := "softHolds", unfollowed := true, recurses := true, apart := false, narrowed := true }
def SoftHoldsUptoSaid : Prop := softHoldsUptoRow.holds Try.pinned (OpenSpec.upto softHoldsSpec)

/-- 'userplanelaw11.SoftSigns', WHERE WHAT IT READS IS OF BULK AT MOST 1048576: true; the input reads as it did. -/
def softSignsUptoRow : OpenClaim := { program := "ytmbjcpppbgapbaa", sum := "918ea3992d50b57067d8044c0359e347cef8cd7b63258e034ee04e3c30232516", func := "userplane/userplanelaw11.SoftSigns", spec := "softSigns", unfollowed := true, recurses := true, apart := false, narrowed := true }
def SoftSignsUptoSaid : Prop := softSignsUptoRow.holds Try.pinned (OpenSpec.upto softSignsSpec)

end Rows
end Go.Proofs.Ytmbjcpppbgapbaa

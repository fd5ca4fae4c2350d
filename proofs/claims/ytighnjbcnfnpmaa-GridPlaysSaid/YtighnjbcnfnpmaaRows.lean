/-
  No cell of these rows narrows 'for every input' (looked for: loops, veiled, ifaces, maps, wideKeys, modest, calm, conditions, laid).
  DERIVED. THE GIVEN ROWS OF THIS SEAT. 7 by the template 'for every input the law returns true; each argument reads behind the call as it read before'; 0 by the template 'total and deterministic' (their statements: YtighnjbcnfnpmaaTotals.lean).
  GIVEN WITH THE SEED: the statements are not yours to turn. If you find one false, say at which input.
  Laid BY PROGRAM, IN A SANDBOX (cutbox-rows.mjs): the forced cells as the released guide's own fill.sh prints them over the translation 4a4238e286adf2ba… (all of the seat's roots in one cut). By AI agents, Wed Nov 11 2026. No macro, syntax, notation, axiom, sorry.
-/
import Derived.Test.YtighnjbcnfnpmaaChecked
import GoSem.Claim
import GoSem.ClaimJoined
import GoSem.ClaimMapViews
import Derived.JoinedTies
import Derived.KernelRfl
namespace Go.Proofs.Ytighnjbcnfnpmaa
/- THE CELL 'sum', in the pinned program and in every row, IS THE sha256 OF THE DUMP (.gsa) THAT YtighnjbcnfnpmaaProg.lean LOADS. Nothing in Lean hashes anything: it is a label: what it is worth is what the hold of that sum in a sandbox is worth. -/
noncomputable def Try.pinned : Pinned := { name := "ytighnjbcnfnpmaa", sum := "4a4238e286adf2baa58ea38097d6721109cf16dd19cfadca66e41dec801f490c", checked := Try.checked }
namespace Rows
def none {H : Type} : Left H := { results := [], args := [] }

/-- 'userplanelaw17.GridKinds': WHATEVER THE INPUT: true; the input reads as it did. -/
def gridKindsSpec : ChangeSpec := { name := "gridKinds", fn := fun _ => fun
  | [d1, d2] => { results := [.lit (.bool true)], args := [d1, d2] }
  | _ => none }
def gridKindsRow : OpenClaim := { program := "ytighnjbcnfnpmaa", sum := "4a4238e286adf2baa58ea38097d6721109cf16dd19cfadca66e41dec801f490c", func := "userplane/userplanelaw17.GridKinds", spec := "gridKinds", unfollowed := true, recurses := true, apart := false }
def GridKindsSaid : Prop := gridKindsRow.holds Try.pinned (OpenSpec.ofChange gridKindsSpec)

/-- ITS FALSE NEIGHBOUR: 'it returns false'. Refute it at one input. -/
def gridKindsWrong : ChangeSpec := { name := "gridKinds", fn := fun _ => fun
  | [d1, d2] => { results := [.lit (.bool false)], args := [d1, d2] }
  | _ => none }
def GridKindsWrongFalsely : Prop := gridKindsRow.holds Try.pinned (OpenSpec.ofChange gridKindsWrong)

/-- 'userplanelaw17.GridData': WHATEVER THE INPUT: true; the input reads as it did. -/
def gridDataSpec : ChangeSpec := { name := "gridData", fn := fun _ => fun
  | [d1, d2, d3] => { results := [.lit (.bool true)], args := [d1, d2, d3] }
  | _ => none }
def gridDataRow : OpenClaim := { program := "ytighnjbcnfnpmaa", sum := "4a4238e286adf2baa58ea38097d6721109cf16dd19cfadca66e41dec801f490c", func := "userplane/userplanelaw17.GridData", spec := "gridData", unfollowed := true, recurses := true, apart := false }
def GridDataSaid : Prop := gridDataRow.holds Try.pinned (OpenSpec.ofChange gridDataSpec)

/-- ITS FALSE NEIGHBOUR: 'it returns false'. Refute it at one input. -/
def gridDataWrong : ChangeSpec := { name := "gridData", fn := fun _ => fun
  | [d1, d2, d3] => { results := [.lit (.bool false)], args := [d1, d2, d3] }
  | _ => none }
def GridDataWrongFalsely : Prop := gridDataRow.holds Try.pinned (OpenSpec.ofChange gridDataWrong)

/-- 'userplanelaw17.GridReferences': WHATEVER THE INPUT: true; the input reads as it did. -/
def gridReferencesSpec : ChangeSpec := { name := "gridReferences", fn := fun _ => fun
  | [d1, d2] => { results := [.lit (.bool true)], args := [d1, d2] }
  | _ => none }
def gridReferencesRow : OpenClaim := { program := "ytighnjbcnfnpmaa", sum := "4a4238e286adf2baa58ea38097d6721109cf16dd19cfadca66e41dec801f490c", func := "userplane/userplanelaw17.GridReferences", spec := "gridReferences", unfollowed := true, recurses := true, apart := false }
def GridReferencesSaid : Prop := gridReferencesRow.holds Try.pinned (OpenSpec.ofChange gridReferencesSpec)

/-- ITS FALSE NEIGHBOUR: 'it returns false'. Refute it at one input. -/
def gridReferencesWrong : ChangeSpec := { name := "gridReferences", fn := fun _ => fun
  | [d1, d2] => { results := [.lit (.bool false)], args := [d1, d2] }
  | _ => none }
def GridReferencesWrongFalsely : Prop := gridReferencesRow.holds Try.pinned (OpenSpec.ofChange gridReferencesWrong)

/-- 'userplanelaw17.GridOwn': WHATEVER THE INPUT: true; the input reads as it did. -/
def gridOwnSpec : ChangeSpec := { name := "gridOwn", fn := fun _ => fun
  | [d1, d2, d3] => { results := [.lit (.bool true)], args := [d1, d2, d3] }
  | _ => none }
def gridOwnRow : OpenClaim := { program := "ytighnjbcnfnpmaa", sum := "4a4238e286adf2baa58ea38097d6721109cf16dd19cfadca66e41dec801f490c", func := "userplane/userplanelaw17.GridOwn", spec := "gridOwn", unfollowed := true, recurses := true, apart := false }
def GridOwnSaid : Prop := gridOwnRow.holds Try.pinned (OpenSpec.ofChange gridOwnSpec)

/-- ITS FALSE NEIGHBOUR: 'it returns false'. Refute it at one input. -/
def gridOwnWrong : ChangeSpec := { name := "gridOwn", fn := fun _ => fun
  | [d1, d2, d3] => { results := [.lit (.bool false)], args := [d1, d2, d3] }
  | _ => none }
def GridOwnWrongFalsely : Prop := gridOwnRow.holds Try.pinned (OpenSpec.ofChange gridOwnWrong)

/-- 'userplanelaw17.GridHolds': WHATEVER THE INPUT: true; the input reads as it did. -/
def gridHoldsSpec : ChangeSpec := { name := "gridHolds", fn := fun _ => fun
  | [d1, d2, d3, d4, d5, d6] => { results := [.lit (.bool true)], args := [d1, d2, d3, d4, d5, d6] }
  | _ => none }
def gridHoldsRow : OpenClaim := { program := "ytighnjbcnfnpmaa", sum := "4a4238e286adf2baa58ea38097d6721109cf16dd19cfadca66e41dec801f490c", func := "userplane/userplanelaw17.GridHolds", spec := "gridHolds", unfollowed := true, recurses := true, apart := false }
def GridHoldsSaid : Prop := gridHoldsRow.holds Try.pinned (OpenSpec.ofChange gridHoldsSpec)

/-- ITS FALSE NEIGHBOUR: 'it returns false'. Refute it at one input. -/
def gridHoldsWrong : ChangeSpec := { name := "gridHolds", fn := fun _ => fun
  | [d1, d2, d3, d4, d5, d6] => { results := [.lit (.bool false)], args := [d1, d2, d3, d4, d5, d6] }
  | _ => none }
def GridHoldsWrongFalsely : Prop := gridHoldsRow.holds Try.pinned (OpenSpec.ofChange gridHoldsWrong)

/-- 'userplanelaw17.GridPlays': WHATEVER THE INPUT: true; the input reads as it did. -/
def gridPlaysSpec : ChangeSpec := { name := "gridPlays", fn := fun _ => fun
  | [d1, d2] => { results := [.lit (.bool true)], args := [d1, d2] }
  | _ => none }
def gridPlaysRow : OpenClaim := { program := "ytighnjbcnfnpmaa", sum := "4a4238e286adf2baa58ea38097d6721109cf16dd19cfadca66e41dec801f490c", func := "userplane/userplanelaw17.GridPlays", spec := "gridPlays", unfollowed := true, recurses := true, apart := false }
def GridPlaysSaid : Prop := gridPlaysRow.holds Try.pinned (OpenSpec.ofChange gridPlaysSpec)

/-- ITS FALSE NEIGHBOUR: 'it returns false'. Refute it at one input. -/
def gridPlaysWrong : ChangeSpec := { name := "gridPlays", fn := fun _ => fun
  | [d1, d2] => { results := [.lit (.bool false)], args := [d1, d2] }
  | _ => none }
def GridPlaysWrongFalsely : Prop := gridPlaysRow.holds Try.pinned (OpenSpec.ofChange gridPlaysWrong)

/-- 'userplanelaw17.GridNone': WHATEVER THE INPUT: true; the input reads as it did. -/
def gridNoneSpec : ChangeSpec := { name := "gridNone", fn := fun _ => fun
  | [d1, d2, d3] => { results := [.lit (.bool true)], args := [d1, d2, d3] }
  | _ => none }
def gridNoneRow : OpenClaim := { program := "ytighnjbcnfnpmaa", sum := "4a4238e286adf2baa58ea38097d6721109cf16dd19cfadca66e41dec801f490c", func := "userplane/userplanelaw17.GridNone", spec := "gridNone", unfollowed := true, recurses := true, apart := false }
def GridNoneSaid : Prop := gridNoneRow.holds Try.pinned (OpenSpec.ofChange gridNoneSpec)

/-- ITS FALSE NEIGHBOUR: 'it returns false'. Refute it at one input. -/
def gridNoneWrong : ChangeSpec := { name := "gridNone", fn := fun _ => fun
  | [d1, d2, d3] => { results := [.lit (.bool false)], args := [d1, d2, d3] }
  | _ => none }
def GridNoneWrongFalsely : Prop := gridNoneRow.holds Try.pinned (OpenSpec.ofChange gridNoneWrong)

/- THE SECOND FORM. 'bulk': how many values and letters a reading holds, each counted each time it is reached (what is shared counts as often as it is met; a slice's spare places count too). A statement '..UptoSaid' is the law's where the arguments, and the package variables that the reading takes, are together of bulk at most 1048576: NARROWER than '..Said'. Prove '..Said' where nothing that the law and all that it calls make is longer than what came in: it says more and counts as full. Else prove '..UptoSaid'. A law counts once. -/
mutual
def uptoBulk {H : Type} : DataW H → Nat
  | .lit (.string bytes) => bytes.length + 1
  | .lit _ => 1
  | .nil => 1
  | .ptr d => uptoBulk d + 1
  | .slice elems spare => uptoBulkAll elems + uptoBulkAll spare + 1
  | .agg parts => uptoBulkAll parts + 1
  | .iface _ d => uptoBulk d + 1
  | .map entries => uptoBulkEntries entries + 1
  | .held _ => 1
def uptoBulkAll {H : Type} : List (DataW H) → Nat
  | [] => 0
  | d :: r => uptoBulk d + uptoBulkAll r
def uptoBulkEntries {H : Type} : List (Lit × DataW H) → Nat
  | [] => 0
  | x :: r => uptoBulkEntry x + uptoBulkEntries r
def uptoBulkEntry {H : Type} : Lit × DataW H → Nat
  | (.string bytes, d) => bytes.length + uptoBulk d + 1
  | (_, d) => uptoBulk d + 1
 end
def uptoSmall : (H : Type) → List (DataW H) → Bool := fun _ ds => decide (uptoBulkAll ds ≤ 1048576)
def OpenSpec.upto (s : _root_.Go.ChangeSpec) : _root_.Go.OpenSpec := { _root_.Go.OpenSpec.ofChange s with cond := some uptoSmall }

/-- 'userplanelaw17.GridKinds', WHERE WHAT IT READS IS OF BULK AT MOST 1048576: true; the input reads as it did. -/
def gridKindsUptoRow : OpenClaim := { program := "ytighnjbcnfnpmaa", sum := "4a4238e286adf2baa58ea38097d6721109cf16dd19cfadca66e41dec801f490c", func := "userplane/userplanelaw17.GridKinds", spec := "gridKinds", unfollowed := true, recurses := true, apart := false, narrowed := true }
def GridKindsUptoSaid : Prop := gridKindsUptoRow.holds Try.pinned (OpenSpec.upto gridKindsSpec)

/-- 'userplanelaw17.GridData', WHERE WHAT IT READS IS OF BULK AT MOST 1048576: true; the input reads as it did. -/
def gridDataUptoRow : OpenClaim := { program := "ytighnjbcnfnpmaa", sum := "4a4238e286adf2baa58ea38097d6721109cf16dd19cfadca66e41dec801f490c", func := "userplane/userplanelaw17.GridData", spec := "gridData", unfollowed := true, recurses := true, apart := false, narrowed := true }
def GridDataUptoSaid : Prop := gridDataUptoRow.holds Try.pinned (OpenSpec.upto gridDataSpec)

/-- 'userplanelaw17.GridReferences', WHERE WHAT IT READS IS OF BULK AT MOST 1048576: true; the input reads as it did. -/
def gridReferencesUptoRow : OpenClaim := { program := "ytighnjbcnfnpmaa", sum := "4a4238e286adf2baa58ea38097d6721109cf16dd19cfadca66e41dec801f490c", func := "userplane/userplanelaw17.GridReferences", spec := "gridReferences", unfollowed := true, recurses := true, apart := false, narrowed := true }
def GridReferencesUptoSaid : Prop := gridReferencesUptoRow.holds Try.pinned (OpenSpec.upto gridReferencesSpec)

/-- 'userplanelaw17.GridOwn', WHERE WHAT IT READS IS OF BULK AT MOST 1048576: true; the input reads as it did. -/
def gridOwnUptoRow : OpenClaim := { program := "ytighnjbcnfnpmaa", sum := "4a4238e286adf2baa58ea38097d6721109cf16dd19cfadca66e41dec801f490c", func := "userplane/userplanelaw17.GridOwn", spec := "gridOwn", unfollowed := true, recurses := true, apart := false, narrowed := true }
def GridOwnUptoSaid : Prop := gridOwnUptoRow.holds Try.pinned (OpenSpec.upto gridOwnSpec)

/-- 'userplanelaw17.GridHolds', WHERE WHAT IT READS IS OF BULK AT MOST 1048576: true; the input reads as it did. -/
def gridHoldsUptoRow : OpenClaim := { program := "ytighnjbcnfnpmaa", sum := "4a4238e286adf2baa58ea38097d6721109cf16dd19cfadca66e41dec801f490c", func := "userplane/userplanelaw17.GridHolds", spec := "gridHolds", unfollowed := true, recurses := true, apart := false, narrowed := true }
def GridHoldsUptoSaid : Prop := gridHoldsUptoRow.holds Try.pinned (OpenSpec.upto gridHoldsSpec)

/-- 'userplanelaw17.GridPlays', WHERE WHAT IT READS IS OF BULK AT MOST 1048576: true; the input reads as it did. -/
def gridPlaysUptoRow : OpenClaim := { program := "ytighnjbcnfnpmaa", sum := "4a4238e286adf2baa58ea38097d6721109cf16dd19cfadca66e41dec801f490c", func := "userplane/userplanelaw17.GridPlays", spec := "gridPlays", unfollowed := true, recurses := true, apart := false, narrowed := true }
def GridPlaysUptoSaid : Prop := gridPlaysUptoRow.holds Try.pinned (OpenSpec.upto gridPlaysSpec)

/-- 'userplanelaw17.GridNone', WHERE WHAT IT READS IS OF BULK AT MOST 1048576: true; the input reads as it did. -/
def gridNoneUptoRow : OpenClaim := { program := "ytighnjbcnfnpmaa", sum := "4a4238e286adf2baa58ea38097d6721109cf16dd19cfadca66e41dec801f490c", func := "userplane/userplanelaw17.GridNone", spec := "gridNone", unfollowed := true, recurses := true, apart := false, narrowed := true }
def GridNoneUptoSaid : Prop := gridNoneUptoRow.holds Try.pinned (OpenSpec.upto gridNoneSpec)

end Rows
end Go.Proofs.Ytighnjbcnfnpmaa

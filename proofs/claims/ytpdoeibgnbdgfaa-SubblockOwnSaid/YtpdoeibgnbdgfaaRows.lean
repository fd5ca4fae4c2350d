/-
  No cell of these rows narrows 'for every input' (looked for: loops, veiled, ifaces, maps, wideKeys, modest, calm, conditions, laid).
  DERIVED. THE GIVEN ROWS OF THIS SEAT. 8 by the template 'for every input the law returns true; each argument reads behind the call as it read before'; 0 by the template 'total and deterministic' (their statements: YtpdoeibgnbdgfaaTotals.lean).
  GIVEN WITH THE SEED: the statements are not yours to turn. If you find one false, say at which input.
  Laid BY PROGRAM, IN A SANDBOX (cutbox-rows.mjs): the forced cells as the released guide's own fill.sh prints them over the translation dbbe0133cbe7a0a2… (all of the seat's roots in one cut). By AI agents, Wed Nov 11 2026. No macro, syntax, notation, axiom, sorry.
-/
import Derived.Test.YtpdoeibgnbdgfaaChecked
import GoSem.Claim
import GoSem.ClaimJoined
import GoSem.ClaimMapViews
import Derived.JoinedTies
import Derived.KernelRfl
namespace Go.Proofs.Ytpdoeibgnbdgfaa
/- THE CELL 'sum', in the pinned program and in every row, IS THE sha256 OF THE DUMP (.gsa) THAT YtpdoeibgnbdgfaaProg.lean LOADS. Nothing in Lean hashes anything: it is a label: what it is worth is what the hold of that sum in a sandbox is worth. -/
noncomputable def Try.pinned : Pinned := { name := "ytpdoeibgnbdgfaa", sum := "dbbe0133cbe7a0a224c5f2a817efd1005691dbf3b67f5722ad271c34e08df467", checked := Try.checked }
namespace Rows
def none {H : Type} : Left H := { results := [], args := [] }

/-- 'userplanelaw09.SubblockOrders': WHATEVER THE INPUT: true; the input reads as it did. -/
def subblockOrdersSpec : ChangeSpec := { name := "subblockOrders", fn := fun _ => fun
  | [d1, d2] => { results := [.lit (.bool true)], args := [d1, d2] }
  | _ => none }
def subblockOrdersRow : OpenClaim := { program := "ytpdoeibgnbdgfaa", sum := "dbbe0133cbe7a0a224c5f2a817efd1005691dbf3b67f5722ad271c34e08df467", func := "userplane/userplanelaw09.SubblockOrders", spec := "subblockOrders", unfollowed := true, recurses := true, apart := false }
def SubblockOrdersSaid : Prop := subblockOrdersRow.holds Try.pinned (OpenSpec.ofChange subblockOrdersSpec)

/-- ITS FALSE NEIGHBOUR: 'it returns false'. Refute it at one input. -/
def subblockOrdersWrong : ChangeSpec := { name := "subblockOrders", fn := fun _ => fun
  | [d1, d2] => { results := [.lit (.bool false)], args := [d1, d2] }
  | _ => none }
def SubblockOrdersWrongFalsely : Prop := subblockOrdersRow.holds Try.pinned (OpenSpec.ofChange subblockOrdersWrong)

/-- 'userplanelaw09.SubblockOnce': WHATEVER THE INPUT: true; the input reads as it did. -/
def subblockOnceSpec : ChangeSpec := { name := "subblockOnce", fn := fun _ => fun
  | [d1, d2] => { results := [.lit (.bool true)], args := [d1, d2] }
  | _ => none }
def subblockOnceRow : OpenClaim := { program := "ytpdoeibgnbdgfaa", sum := "dbbe0133cbe7a0a224c5f2a817efd1005691dbf3b67f5722ad271c34e08df467", func := "userplane/userplanelaw09.SubblockOnce", spec := "subblockOnce", unfollowed := true, recurses := true, apart := false }
def SubblockOnceSaid : Prop := subblockOnceRow.holds Try.pinned (OpenSpec.ofChange subblockOnceSpec)

/-- ITS FALSE NEIGHBOUR: 'it returns false'. Refute it at one input. -/
def subblockOnceWrong : ChangeSpec := { name := "subblockOnce", fn := fun _ => fun
  | [d1, d2] => { results := [.lit (.bool false)], args := [d1, d2] }
  | _ => none }
def SubblockOnceWrongFalsely : Prop := subblockOnceRow.holds Try.pinned (OpenSpec.ofChange subblockOnceWrong)

/-- 'userplanelaw09.SubblockColumns': WHATEVER THE INPUT: true; the input reads as it did. -/
def subblockColumnsSpec : ChangeSpec := { name := "subblockColumns", fn := fun _ => fun
  | [d1, d2] => { results := [.lit (.bool true)], args := [d1, d2] }
  | _ => none }
def subblockColumnsRow : OpenClaim := { program := "ytpdoeibgnbdgfaa", sum := "dbbe0133cbe7a0a224c5f2a817efd1005691dbf3b67f5722ad271c34e08df467", func := "userplane/userplanelaw09.SubblockColumns", spec := "subblockColumns", unfollowed := true, recurses := true, apart := false }
def SubblockColumnsSaid : Prop := subblockColumnsRow.holds Try.pinned (OpenSpec.ofChange subblockColumnsSpec)

/-- ITS FALSE NEIGHBOUR: 'it returns false'. Refute it at one input. -/
def subblockColumnsWrong : ChangeSpec := { name := "subblockColumns", fn := fun _ => fun
  | [d1, d2] => { results := [.lit (.bool false)], args := [d1, d2] }
  | _ => none }
def SubblockColumnsWrongFalsely : Prop := subblockColumnsRow.holds Try.pinned (OpenSpec.ofChange subblockColumnsWrong)

/-- 'userplanelaw09.SubblockShifts': WHATEVER THE INPUT: true; the input reads as it did. -/
def subblockShiftsSpec : ChangeSpec := { name := "subblockShifts", fn := fun _ => fun
  | [d] => { results := [.lit (.bool true)], args := [d] }
  | _ => none }
def subblockShiftsRow : OpenClaim := { program := "ytpdoeibgnbdgfaa", sum := "dbbe0133cbe7a0a224c5f2a817efd1005691dbf3b67f5722ad271c34e08df467", func := "userplane/userplanelaw09.SubblockShifts", spec := "subblockShifts", unfollowed := true, recurses := true, apart := false }
def SubblockShiftsSaid : Prop := subblockShiftsRow.holds Try.pinned (OpenSpec.ofChange subblockShiftsSpec)

/-- ITS FALSE NEIGHBOUR: 'it returns false'. Refute it at one input. -/
def subblockShiftsWrong : ChangeSpec := { name := "subblockShifts", fn := fun _ => fun
  | [d] => { results := [.lit (.bool false)], args := [d] }
  | _ => none }
def SubblockShiftsWrongFalsely : Prop := subblockShiftsRow.holds Try.pinned (OpenSpec.ofChange subblockShiftsWrong)

/-- 'userplanelaw09.SubblockInterleaves': WHATEVER THE INPUT: true; the input reads as it did. -/
def subblockInterleavesSpec : ChangeSpec := { name := "subblockInterleaves", fn := fun _ => fun
  | [d1, d2] => { results := [.lit (.bool true)], args := [d1, d2] }
  | _ => none }
def subblockInterleavesRow : OpenClaim := { program := "ytpdoeibgnbdgfaa", sum := "dbbe0133cbe7a0a224c5f2a817efd1005691dbf3b67f5722ad271c34e08df467", func := "userplane/userplanelaw09.SubblockInterleaves", spec := "subblockInterleaves", unfollowed := true, recurses := true, apart := false }
def SubblockInterleavesSaid : Prop := subblockInterleavesRow.holds Try.pinned (OpenSpec.ofChange subblockInterleavesSpec)

/-- ITS FALSE NEIGHBOUR: 'it returns false'. Refute it at one input. -/
def subblockInterleavesWrong : ChangeSpec := { name := "subblockInterleaves", fn := fun _ => fun
  | [d1, d2] => { results := [.lit (.bool false)], args := [d1, d2] }
  | _ => none }
def SubblockInterleavesWrongFalsely : Prop := subblockInterleavesRow.holds Try.pinned (OpenSpec.ofChange subblockInterleavesWrong)

/-- 'userplanelaw09.SubblockBack': WHATEVER THE INPUT: true; the input reads as it did. -/
def subblockBackSpec : ChangeSpec := { name := "subblockBack", fn := fun _ => fun
  | [d1, d2] => { results := [.lit (.bool true)], args := [d1, d2] }
  | _ => none }
def subblockBackRow : OpenClaim := { program := "ytpdoeibgnbdgfaa", sum := "dbbe0133cbe7a0a224c5f2a817efd1005691dbf3b67f5722ad271c34e08df467", func := "userplane/userplanelaw09.SubblockBack", spec := "subblockBack", unfollowed := true, recurses := true, apart := false }
def SubblockBackSaid : Prop := subblockBackRow.holds Try.pinned (OpenSpec.ofChange subblockBackSpec)

/-- ITS FALSE NEIGHBOUR: 'it returns false'. Refute it at one input. -/
def subblockBackWrong : ChangeSpec := { name := "subblockBack", fn := fun _ => fun
  | [d1, d2] => { results := [.lit (.bool false)], args := [d1, d2] }
  | _ => none }
def SubblockBackWrongFalsely : Prop := subblockBackRow.holds Try.pinned (OpenSpec.ofChange subblockBackWrong)

/-- 'userplanelaw09.SubblockAgain': WHATEVER THE INPUT: true; the input reads as it did. -/
def subblockAgainSpec : ChangeSpec := { name := "subblockAgain", fn := fun _ => fun
  | [d1, d2, d3] => { results := [.lit (.bool true)], args := [d1, d2, d3] }
  | _ => none }
def subblockAgainRow : OpenClaim := { program := "ytpdoeibgnbdgfaa", sum := "dbbe0133cbe7a0a224c5f2a817efd1005691dbf3b67f5722ad271c34e08df467", func := "userplane/userplanelaw09.SubblockAgain", spec := "subblockAgain", unfollowed := true, recurses := true, apart := false }
def SubblockAgainSaid : Prop := subblockAgainRow.holds Try.pinned (OpenSpec.ofChange subblockAgainSpec)

/-- ITS FALSE NEIGHBOUR: 'it returns false'. Refute it at one input. -/
def subblockAgainWrong : ChangeSpec := { name := "subblockAgain", fn := fun _ => fun
  | [d1, d2, d3] => { results := [.lit (.bool false)], args := [d1, d2, d3] }
  | _ => none }
def SubblockAgainWrongFalsely : Prop := subblockAgainRow.holds Try.pinned (OpenSpec.ofChange subblockAgainWrong)

/-- 'userplanelaw09.SubblockOwn': WHATEVER THE INPUT: true; the input reads as it did. -/
def subblockOwnSpec : ChangeSpec := { name := "subblockOwn", fn := fun _ => fun
  | [d1, d2] => { results := [.lit (.bool true)], args := [d1, d2] }
  | _ => none }
def subblockOwnRow : OpenClaim := { program := "ytpdoeibgnbdgfaa", sum := "dbbe0133cbe7a0a224c5f2a817efd1005691dbf3b67f5722ad271c34e08df467", func := "userplane/userplanelaw09.SubblockOwn", spec := "subblockOwn", unfollowed := true, recurses := true, apart := false }
def SubblockOwnSaid : Prop := subblockOwnRow.holds Try.pinned (OpenSpec.ofChange subblockOwnSpec)

/-- ITS FALSE NEIGHBOUR: 'it returns false'. Refute it at one input. -/
def subblockOwnWrong : ChangeSpec := { name := "subblockOwn", fn := fun _ => fun
  | [d1, d2] => { results := [.lit (.bool false)], args := [d1, d2] }
  | _ => none }
def SubblockOwnWrongFalsely : Prop := subblockOwnRow.holds Try.pinned (OpenSpec.ofChange subblockOwnWrong)

/- THE SECOND FORM. 'bulk': how many values and letters a reading holds, each counted each time it is reached (what is shared counts as often as it is met; a slice's spare places count too). A statement '..UptoSaid' is the law's where the arguments, and the package variables that the reading takes, are together of bulk at most 1048576: NARROWER than '..Said'. Prove '..Said' where nothing that the law and all that it calls make is longer than what came in: it says more and counts as full. Else prove '..UptoSaid'. A law counts once. -/
mutual
def uptoBulk {H : Type} : DataW H → Nat
  | .lit (.string bytes) => bytes.length + 1
  | .lit _ => 1
  | .nil => 1
  | .ptr d => uptoBulk d + 1
  | .slice elems spare => uptoBulkAll elems + uptoBulkAll spare + 1
  | .agg parts => uptoBulkAll parts + 1
  | .iface _ d => uptoBulk d + 1
  | .map entries => uptoBulkEntries entries + 1
  | .held _ => 1
def uptoBulkAll {H : Type} : List (DataW H) → Nat
  | [] => 0
  | d :: r => uptoBulk d + uptoBulkAll r
def uptoBulkEntries {H : Type} : List (Lit × DataW H) → Nat
  | [] => 0
  | x :: r => uptoBulkEntry x + uptoBulkEntries r
def uptoBulkEntry {H : Type} : Lit × DataW H → Nat
  | (.string bytes, d) => bytes.length + uptoBulk d + 1
  | (_, d) => uptoBulk d + 1
 end
def uptoSmall : (H : Type) → List (DataW H) → Bool := fun _ ds => decide (uptoBulkAll ds ≤ 1048576)
def OpenSpec.upto (s : _root_.Go.ChangeSpec) : _root_.Go.OpenSpec := { _root_.Go.OpenSpec.ofChange s with cond := some uptoSmall }

/-- 'userplanelaw09.SubblockOrders', WHERE WHAT IT READS IS OF BULK AT MOST 1048576: true; the input reads as it did. -/
def subblockOrdersUptoRow : OpenClaim := { program := "ytpdoeibgnbdgfaa", sum := "dbbe0133cbe7a0a224c5f2a817efd1005691dbf3b67f5722ad271c34e08df467", func := "userplane/userplanelaw09.SubblockOrders", spec := "subblockOrders", unfollowed := true, recurses := true, apart := false, narrowed := true }
def SubblockOrdersUptoSaid : Prop := subblockOrdersUptoRow.holds Try.pinned (OpenSpec.upto subblockOrdersSpec)

/-- 'userplanelaw09.SubblockOnce', WHERE WHAT IT READS IS OF BULK AT MOST 1048576: true; the input reads as it did. -/
def subblockOnceUptoRow : OpenClaim := { program := "ytpdoeibgnbdgfaa", sum := "dbbe0133cbe7a0a224c5f2a817efd1005691dbf3b67f5722ad271c34e08df467", func := "userplane/userplanelaw09.SubblockOnce", spec := "subblockOnce", unfollowed := true, recurses := true, apart := false, narrowed := true }
def SubblockOnceUptoSaid : Prop := subblockOnceUptoRow.holds Try.pinned (OpenSpec.upto subblockOnceSpec)

/-- 'userplanelaw09.SubblockColumns', WHERE WHAT IT READS IS OF BULK AT MOST 1048576: true; the input reads as it did. -/
def subblockColumnsUptoRow : OpenClaim := { program := "ytpdoeibgnbdgfaa", sum := "dbbe0133cbe7a0a224c5f2a817efd1005691dbf3b67f5722ad271c34e08df467", func := "userplane/userplanelaw09.SubblockColumns", spec := "subblockColumns", unfollowed := true, recurses := true, apart := false, narrowed := true }
def SubblockColumnsUptoSaid : Prop := subblockColumnsUptoRow.holds Try.pinned (OpenSpec.upto subblockColumnsSpec)

/-- 'userplanelaw09.SubblockShifts', WHERE WHAT IT READS IS OF BULK AT MOST 1048576: true; the input reads as it did. -/
def subblockShiftsUptoRow : OpenClaim := { program := "ytpdoeibgnbdgfaa", sum := "dbbe0133cbe7a0a224c5f2a817efd1005691dbf3b67f5722ad271c34e08df467", func := "userplane/userplanelaw09.SubblockShifts", spec := "subblockShifts", unfollowed := true, recurses := true, apart := false, narrowed := true }
def SubblockShiftsUptoSaid : Prop := subblockShiftsUptoRow.holds Try.pinned (OpenSpec.upto subblockShiftsSpec)

/-- 'userplanelaw09.SubblockInterleaves', WHERE WHAT IT READS IS OF BULK AT MOST 1048576: true; the input reads as it did. -/
def subblockInterleavesUptoRow : OpenClaim := { program := "ytpdoeibgnbdgfaa", sum := "dbbe0133cbe7a0a224c5f2a817efd1005691dbf3b67f5722ad271c34e08df467", func := "userplane/userplanelaw09.SubblockInterleaves", spec := "subblockInterleaves", unfollowed := true, recurses := true, apart := false, narrowed := true }
def SubblockInterleavesUptoSaid : Prop := subblockInterleavesUptoRow.holds Try.pinned (OpenSpec.upto subblockInterleavesSpec)

/-- 'userplanelaw09.SubblockBack', WHERE WHAT IT READS IS OF BULK AT MOST 1048576: true; the input reads as it did. -/
def subblockBackUptoRow : OpenClaim := { program := "ytpdoeibgnbdgfaa", sum := "dbbe0133cbe7a0a224c5f2a817efd1005691dbf3b67f5722ad271c34e08df467", func := "userplane/userplanelaw09.SubblockBack", spec := "subblockBack", unfollowed := true, recurses := true, apart := false, narrowed := true }
def SubblockBackUptoSaid : Prop := subblockBackUptoRow.holds Try.pinned (OpenSpec.upto subblockBackSpec)

/-- 'userplanelaw09.SubblockAgain', WHERE WHAT IT READS IS OF BULK AT MOST 1048576: true; the input reads as it did. -/
def subblockAgainUptoRow : OpenClaim := { program := "ytpdoeibgnbdgfaa", sum := "dbbe0133cbe7a0a224c5f2a817efd1005691dbf3b67f5722ad271c34e08df467", func := "userplane/userplanelaw09.SubblockAgain", spec := "subblockAgain", unfollowed := true, recurses := true, apart := false, narrowed := true }
def SubblockAgainUptoSaid : Prop := subblockAgainUptoRow.holds Try.pinned (OpenSpec.upto subblockAgainSpec)

/-- 'userplanelaw09.SubblockOwn', WHERE WHAT IT READS IS OF BULK AT MOST 1048576: true; the input reads as it did. -/
def subblockOwnUptoRow : OpenClaim := { program := "ytpdoeibgnbdgfaa", sum := "dbbe0133cbe7a0a224c5f2a817efd1005691dbf3b67f5722ad271c34e08df467", func := "userplane/userplanelaw09.SubblockOwn", spec := "subblockOwn", unfollowed := true, recurses := true, apart := false, narrowed := true }
def SubblockOwnUptoSaid : Prop := subblockOwnUptoRow.holds Try.pinned (OpenSpec.upto subblockOwnSpec)

end Rows
end Go.Proofs.Ytpdoeibgnbdgfaa

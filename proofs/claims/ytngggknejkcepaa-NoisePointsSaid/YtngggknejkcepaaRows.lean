/-
  No cell of these rows narrows 'for every input' (looked for: loops, veiled, ifaces, maps, wideKeys, modest, calm, conditions, laid).
  DERIVED. THE GIVEN ROWS OF THIS SEAT. 7 by the template 'for every input the law returns true; each argument reads behind the call as it read before'; 0 by the template 'total and deterministic' (their statements: YtngggknejkcepaaTotals.lean).
  GIVEN WITH THE SEED: the statements are not yours to turn. If you find one false, say at which input.
  Laid BY PROGRAM, IN A SANDBOX (cutbox-rows.mjs): the forced cells as the released guide's own fill.sh prints them over the translation a6f66e89708ed368… (all of the seat's roots in one cut). By AI agents, Wed Nov 11 2026. No macro, syntax, notation, axiom, sorry.
-/
import Derived.Test.YtngggknejkcepaaChecked
import GoSem.Claim
import GoSem.ClaimJoined
import GoSem.ClaimMapViews
import Derived.JoinedTies
import Derived.KernelRfl
namespace Go.Proofs.Ytngggknejkcepaa
/- THE CELL 'sum', in the pinned program and in every row, IS THE sha256 OF THE DUMP (.gsa) THAT YtngggknejkcepaaProg.lean LOADS. Nothing in Lean hashes anything: it is a label: what it is worth is what the hold of that sum in a sandbox is worth. -/
noncomputable def Try.pinned : Pinned := { name := "ytngggknejkcepaa", sum := "a6f66e89708ed36892984e5e14c78b5406cb757d6d683b6d2db3eac3c8590854", checked := Try.checked }
namespace Rows
def none {H : Type} : Left H := { results := [], args := [] }

/-- 'userplanelaw18.NoiseBits': WHATEVER THE INPUT: true; the input reads as it did. -/
def noiseBitsSpec : ChangeSpec := { name := "noiseBits", fn := fun _ => fun
  | [d1, d2, d3] => { results := [.lit (.bool true)], args := [d1, d2, d3] }
  | _ => none }
def noiseBitsRow : OpenClaim := { program := "ytngggknejkcepaa", sum := "a6f66e89708ed36892984e5e14c78b5406cb757d6d683b6d2db3eac3c8590854", func := "userplane/userplanelaw18.NoiseBits", spec := "noiseBits", unfollowed := true, recurses := true, apart := false }
def NoiseBitsSaid : Prop := noiseBitsRow.holds Try.pinned (OpenSpec.ofChange noiseBitsSpec)

/-- ITS FALSE NEIGHBOUR: 'it returns false'. Refute it at one input. -/
def noiseBitsWrong : ChangeSpec := { name := "noiseBits", fn := fun _ => fun
  | [d1, d2, d3] => { results := [.lit (.bool false)], args := [d1, d2, d3] }
  | _ => none }
def NoiseBitsWrongFalsely : Prop := noiseBitsRow.holds Try.pinned (OpenSpec.ofChange noiseBitsWrong)

/-- 'userplanelaw18.NoiseOutputs': WHATEVER THE INPUT: true; the input reads as it did. -/
def noiseOutputsSpec : ChangeSpec := { name := "noiseOutputs", fn := fun _ => fun
  | [d1, d2, d3] => { results := [.lit (.bool true)], args := [d1, d2, d3] }
  | _ => none }
def noiseOutputsRow : OpenClaim := { program := "ytngggknejkcepaa", sum := "a6f66e89708ed36892984e5e14c78b5406cb757d6d683b6d2db3eac3c8590854", func := "userplane/userplanelaw18.NoiseOutputs", spec := "noiseOutputs", unfollowed := true, recurses := true, apart := false }
def NoiseOutputsSaid : Prop := noiseOutputsRow.holds Try.pinned (OpenSpec.ofChange noiseOutputsSpec)

/-- ITS FALSE NEIGHBOUR: 'it returns false'. Refute it at one input. -/
def noiseOutputsWrong : ChangeSpec := { name := "noiseOutputs", fn := fun _ => fun
  | [d1, d2, d3] => { results := [.lit (.bool false)], args := [d1, d2, d3] }
  | _ => none }
def NoiseOutputsWrongFalsely : Prop := noiseOutputsRow.holds Try.pinned (OpenSpec.ofChange noiseOutputsWrong)

/-- 'userplanelaw18.NoiseSofts': WHATEVER THE INPUT: true; the input reads as it did. -/
def noiseSoftsSpec : ChangeSpec := { name := "noiseSofts", fn := fun _ => fun
  | [d1, d2, d3] => { results := [.lit (.bool true)], args := [d1, d2, d3] }
  | _ => none }
def noiseSoftsRow : OpenClaim := { program := "ytngggknejkcepaa", sum := "a6f66e89708ed36892984e5e14c78b5406cb757d6d683b6d2db3eac3c8590854", func := "userplane/userplanelaw18.NoiseSofts", spec := "noiseSofts", unfollowed := true, recurses := true, apart := false }
def NoiseSoftsSaid : Prop := noiseSoftsRow.holds Try.pinned (OpenSpec.ofChange noiseSoftsSpec)

/-- ITS FALSE NEIGHBOUR: 'it returns false'. Refute it at one input. -/
def noiseSoftsWrong : ChangeSpec := { name := "noiseSofts", fn := fun _ => fun
  | [d1, d2, d3] => { results := [.lit (.bool false)], args := [d1, d2, d3] }
  | _ => none }
def NoiseSoftsWrongFalsely : Prop := noiseSoftsRow.holds Try.pinned (OpenSpec.ofChange noiseSoftsWrong)

/-- 'userplanelaw18.NoiseHolds': WHATEVER THE INPUT: true; the input reads as it did. -/
def noiseHoldsSpec : ChangeSpec := { name := "noiseHolds", fn := fun _ => fun
  | [d1, d2, d3, d4] => { results := [.lit (.bool true)], args := [d1, d2, d3, d4] }
  | _ => none }
def noiseHoldsRow : OpenClaim := { program := "ytngggknejkcepaa", sum := "a6f66e89708ed36892984e5e14c78b5406cb757d6d683b6d2db3eac3c8590854", func := "userplane/userplanelaw18.NoiseHolds", spec := "noiseHolds", unfollowed := true, recurses := true, apart := false }
def NoiseHoldsSaid : Prop := noiseHoldsRow.holds Try.pinned (OpenSpec.ofChange noiseHoldsSpec)

/-- ITS FALSE NEIGHBOUR: 'it returns false'. Refute it at one input. -/
def noiseHoldsWrong : ChangeSpec := { name := "noiseHolds", fn := fun _ => fun
  | [d1, d2, d3, d4] => { results := [.lit (.bool false)], args := [d1, d2, d3, d4] }
  | _ => none }
def NoiseHoldsWrongFalsely : Prop := noiseHoldsRow.holds Try.pinned (OpenSpec.ofChange noiseHoldsWrong)

/-- 'userplanelaw18.NoisePoints': WHATEVER THE INPUT: true; the input reads as it did. -/
def noisePointsSpec : ChangeSpec := { name := "noisePoints", fn := fun _ => fun
  | [d1, d2, d3] => { results := [.lit (.bool true)], args := [d1, d2, d3] }
  | _ => none }
def noisePointsRow : OpenClaim := { program := "ytngggknejkcepaa", sum := "a6f66e89708ed36892984e5e14c78b5406cb757d6d683b6d2db3eac3c8590854", func := "userplane/userplanelaw18.NoisePoints", spec := "noisePoints", unfollowed := true, recurses := true, apart := false }
def NoisePointsSaid : Prop := noisePointsRow.holds Try.pinned (OpenSpec.ofChange noisePointsSpec)

/-- ITS FALSE NEIGHBOUR: 'it returns false'. Refute it at one input. -/
def noisePointsWrong : ChangeSpec := { name := "noisePoints", fn := fun _ => fun
  | [d1, d2, d3] => { results := [.lit (.bool false)], args := [d1, d2, d3] }
  | _ => none }
def NoisePointsWrongFalsely : Prop := noisePointsRow.holds Try.pinned (OpenSpec.ofChange noisePointsWrong)

/-- 'userplanelaw18.NoiseClones': WHATEVER THE INPUT: true; the input reads as it did. -/
def noiseClonesSpec : ChangeSpec := { name := "noiseClones", fn := fun _ => fun
  | [d1, d2, d3, d4, d5] => { results := [.lit (.bool true)], args := [d1, d2, d3, d4, d5] }
  | _ => none }
def noiseClonesRow : OpenClaim := { program := "ytngggknejkcepaa", sum := "a6f66e89708ed36892984e5e14c78b5406cb757d6d683b6d2db3eac3c8590854", func := "userplane/userplanelaw18.NoiseClones", spec := "noiseClones", unfollowed := true, recurses := true, apart := false }
def NoiseClonesSaid : Prop := noiseClonesRow.holds Try.pinned (OpenSpec.ofChange noiseClonesSpec)

/-- ITS FALSE NEIGHBOUR: 'it returns false'. Refute it at one input. -/
def noiseClonesWrong : ChangeSpec := { name := "noiseClones", fn := fun _ => fun
  | [d1, d2, d3, d4, d5] => { results := [.lit (.bool false)], args := [d1, d2, d3, d4, d5] }
  | _ => none }
def NoiseClonesWrongFalsely : Prop := noiseClonesRow.holds Try.pinned (OpenSpec.ofChange noiseClonesWrong)

/-- 'userplanelaw18.NoiseNone': WHATEVER THE INPUT: true; the input reads as it did. -/
def noiseNoneSpec : ChangeSpec := { name := "noiseNone", fn := fun _ => fun
  | [d1, d2, d3, d4] => { results := [.lit (.bool true)], args := [d1, d2, d3, d4] }
  | _ => none }
def noiseNoneRow : OpenClaim := { program := "ytngggknejkcepaa", sum := "a6f66e89708ed36892984e5e14c78b5406cb757d6d683b6d2db3eac3c8590854", func := "userplane/userplanelaw18.NoiseNone", spec := "noiseNone", unfollowed := true, recurses := true, apart := false }
def NoiseNoneSaid : Prop := noiseNoneRow.holds Try.pinned (OpenSpec.ofChange noiseNoneSpec)

/-- ITS FALSE NEIGHBOUR: 'it returns false'. Refute it at one input. -/
def noiseNoneWrong : ChangeSpec := { name := "noiseNone", fn := fun _ => fun
  | [d1, d2, d3, d4] => { results := [.lit (.bool false)], args := [d1, d2, d3, d4] }
  | _ => none }
def NoiseNoneWrongFalsely : Prop := noiseNoneRow.holds Try.pinned (OpenSpec.ofChange noiseNoneWrong)

/- THE SECOND FORM. 'bulk': how many values and letters a reading holds, each counted each time it is reached (what is shared counts as often as it is met; a slice's spare places count too). A statement '..UptoSaid' is the law's where the arguments, and the package variables that the reading takes, are together of bulk at most 1048576: NARROWER than '..Said'. Prove '..Said' where nothing that the law and all that it calls make is longer than what came in: it says more and counts as full. Else prove '..UptoSaid'. A law counts once. -/
mutual
def uptoBulk {H : Type} : DataW H → Nat
  | .lit (.string bytes) => bytes.length + 1
  | .lit _ => 1
  | .nil => 1
  | .ptr d => uptoBulk d + 1
  | .slice elems spare => uptoBulkAll elems + uptoBulkAll spare + 1
  | .agg parts => uptoBulkAll parts + 1
  | .iface _ d => uptoBulk d + 1
  | .map entries => uptoBulkEntries entries + 1
  | .held _ => 1
def uptoBulkAll {H : Type} : List (DataW H) → Nat
  | [] => 0
  | d :: r => uptoBulk d + uptoBulkAll r
def uptoBulkEntries {H : Type} : List (Lit × DataW H) → Nat
  | [] => 0
  | x :: r => uptoBulkEntry x + uptoBulkEntries r
def uptoBulkEntry {H : Type} : Lit × DataW H → Nat
  | (.string bytes, d) => bytes.length + uptoBulk d + 1
  | (_, d) => uptoBulk d + 1
 end
def uptoSmall : (H : Type) → List (DataW H) → Bool := fun _ ds => decide (uptoBulkAll ds ≤ 1048576)
def OpenSpec.upto (s : _root_.Go.ChangeSpec) : _root_.Go.OpenSpec := { _root_.Go.OpenSpec.ofChange s with cond := some uptoSmall }

/-- 'userplanelaw18.NoiseBits', WHERE WHAT IT READS IS OF BULK AT MOST 1048576: true; the input reads as it did. -/
def noiseBitsUptoRow : OpenClaim := { program := "ytngggknejkcepaa", sum := "a6f66e89708ed36892984e5e14c78b5406cb757d6d683b6d2db3eac3c8590854", func := "userplane/userplanelaw18.NoiseBits", spec := "noiseBits", unfollowed := true, recurses := true, apart := false, narrowed := true }
def NoiseBitsUptoSaid : Prop := noiseBitsUptoRow.holds Try.pinned (OpenSpec.upto noiseBitsSpec)

/-- 'userplanelaw18.NoiseOutputs', WHERE WHAT IT READS IS OF BULK AT MOST 1048576: true; the input reads as it did. -/
def noiseOutputsUptoRow : OpenClaim := { program := "ytngggknejkcepaa", sum := "a6f66e89708ed36892984e5e14c78b5406cb757d6d683b6d2db3eac3c8590854", func := "userplane/userplanelaw18.NoiseOutputs", spec := "noiseOutputs", unfollowed := true, recurses := true, apart := false, narrowed := true }
def NoiseOutputsUptoSaid : Prop := noiseOutputsUptoRow.holds Try.pinned (OpenSpec.upto noiseOutputsSpec)

/-- 'userplanelaw18.NoiseSofts', WHERE WHAT IT READS IS OF BULK AT MOST 1048576: true; the input reads as it did. -/
def noiseSoftsUptoRow : OpenClaim := { program := "ytngggknejkcepaa", sum := "a6f66e89708ed36892984e5e14c78b5406cb757d6d683b6d2db3eac3c8590854", func := "userplane/userplanelaw18.NoiseSofts", spec := "noiseSofts", unfollowed := true, recurses := true, apart := false, narrowed := true }
def NoiseSoftsUptoSaid : Prop := noiseSoftsUptoRow.holds Try.pinned (OpenSpec.upto noiseSoftsSpec)

/-- 'userplanelaw18.NoiseHolds', WHERE WHAT IT READS IS OF BULK AT MOST 1048576: true; the input reads as it did. -/
def noiseHoldsUptoRow : OpenClaim := { program := "ytngggknejkcepaa", sum := "a6f66e89708ed36892984e5e14c78b5406cb757d6d683b6d2db3eac3c8590854", func := "userplane/userplanelaw18.NoiseHolds", spec := "noiseHolds", unfollowed := true, recurses := true, apart := false, narrowed := true }
def NoiseHoldsUptoSaid : Prop := noiseHoldsUptoRow.holds Try.pinned (OpenSpec.upto noiseHoldsSpec)

/-- 'userplanelaw18.NoisePoints', WHERE WHAT IT READS IS OF BULK AT MOST 1048576: true; the input reads as it did. -/
def noisePointsUptoRow : OpenClaim := { program := "ytngggknejkcepaa", sum := "a6f66e89708ed36892984e5e14c78b5406cb757d6d683b6d2db3eac3c8590854", func := "userplane/userplanelaw18.NoisePoints", spec := "noisePoints", unfollowed := true, recurses := true, apart := false, narrowed := true }
def NoisePointsUptoSaid : Prop := noisePointsUptoRow.holds Try.pinned (OpenSpec.upto noisePointsSpec)

/-- 'userplanelaw18.NoiseClones', WHERE WHAT IT READS IS OF BULK AT MOST 1048576: true; the input reads as it did. -/
def noiseClonesUptoRow : OpenClaim := { program := "ytngggknejkcepaa", sum := "a6f66e89708ed36892984e5e14c78b5406cb757d6d683b6d2db3eac3c8590854", func := "userplane/userplanelaw18.NoiseClones", spec := "noiseClones", unfollowed := true, recurses := true, apart := false, narrowed := true }
def NoiseClonesUptoSaid : Prop := noiseClonesUptoRow.holds Try.pinned (OpenSpec.upto noiseClonesSpec)

/-- 'userplanelaw18.NoiseNone', WHERE WHAT IT READS IS OF BULK AT MOST 1048576: true; the input reads as it did. -/
def noiseNoneUptoRow : OpenClaim := { program := "ytngggknejkcepaa", sum := "a6f66e89708ed36892984e5e14c78b5406cb757d6d683b6d2db3eac3c8590854", func := "userplane/userplanelaw18.NoiseNone", spec := "noiseNone", unfollowed := true, recurses := true, apart := false, narrowed := true }
def NoiseNoneUptoSaid : Prop := noiseNoneUptoRow.holds Try.pinned (OpenSpec.upto noiseNoneSpec)

end Rows
end Go.Proofs.Ytngggknejkcepaa

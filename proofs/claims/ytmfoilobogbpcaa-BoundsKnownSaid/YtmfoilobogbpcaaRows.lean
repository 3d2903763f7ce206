/-
  No cell of these rows narrows 'for every input' (looked for: loops, veiled, ifaces, maps, wideKeys, modest, calm, conditions, laid).
  DERIVED. THE GIVEN ROWS OF THIS SEAT. 10 by the template 'for every input the law returns true; each argument reads behind the call as it read before'; 0 by the template 'total and deterministic' (their statements: YtmfoilobogbpcaaTotals.lean).
  GIVEN WITH THE SEED: the statements are not yours to turn. If you find one false, say at which input.
  Laid BY PROGRAM, IN A SANDBOX (cutbox-rows.mjs): the forced cells as the released guide's own fill.sh prints them over the translation 85120353ef844c2d… (all of the seat's roots in one cut). By AI agents, Wed Nov 11 2026. No macro, syntax, notation, axiom, sorry.
-/
import Derived.Test.YtmfoilobogbpcaaChecked
import GoSem.Claim
import GoSem.ClaimJoined
import GoSem.ClaimMapViews
import Derived.JoinedTies
import Derived.KernelRfl
namespace Go.Proofs.Ytmfoilobogbpcaa
/- THE CELL 'sum', in the pinned program and in every row, IS THE sha256 OF THE DUMP (.gsa) THAT YtmfoilobogbpcaaProg.lean LOADS. Nothing in Lean hashes anything: it is a label: what it is worth is what the hold of that sum in a sandbox is worth. -/
noncomputable def Try.pinned : Pinned := { name := "ytmfoilobogbpcaa", sum := "85120353ef844c2dcec724b433e54da0801571b3f312f24c00224a827daadfb1", checked := Try.checked }
namespace Rows
def none {H : Type} : Left H := { results := [], args := [] }

/-- 'fallowlaw03.BoundsTell': WHATEVER THE INPUT: true; the input reads as it did. -/
def boundsTellSpec : ChangeSpec := { name := "boundsTell", fn := fun _ => fun
  | [d1, d2] => { results := [.lit (.bool true)], args := [d1, d2] }
  | _ => none }
def boundsTellRow : OpenClaim := { program := "ytmfoilobogbpcaa", sum := "85120353ef844c2dcec724b433e54da0801571b3f312f24c00224a827daadfb1", func := "fallow/fallowlaw03.BoundsTell", spec := "boundsTell", unfollowed := true, recurses := true, apart := false }
def BoundsTellSaid : Prop := boundsTellRow.holds Try.pinned (OpenSpec.ofChange boundsTellSpec)

/-- ITS FALSE NEIGHBOUR: 'it returns false'. Refute it at one input. -/
def boundsTellWrong : ChangeSpec := { name := "boundsTell", fn := fun _ => fun
  | [d1, d2] => { results := [.lit (.bool false)], args := [d1, d2] }
  | _ => none }
def BoundsTellWrongFalsely : Prop := boundsTellRow.holds Try.pinned (OpenSpec.ofChange boundsTellWrong)

/-- 'fallowlaw03.BoundsMake': WHATEVER THE INPUT: true; the input reads as it did. -/
def boundsMakeSpec : ChangeSpec := { name := "boundsMake", fn := fun _ => fun
  | [d1, d2] => { results := [.lit (.bool true)], args := [d1, d2] }
  | _ => none }
def boundsMakeRow : OpenClaim := { program := "ytmfoilobogbpcaa", sum := "85120353ef844c2dcec724b433e54da0801571b3f312f24c00224a827daadfb1", func := "fallow/fallowlaw03.BoundsMake", spec := "boundsMake", unfollowed := true, recurses := true, apart := false }
def BoundsMakeSaid : Prop := boundsMakeRow.holds Try.pinned (OpenSpec.ofChange boundsMakeSpec)

/-- ITS FALSE NEIGHBOUR: 'it returns false'. Refute it at one input. -/
def boundsMakeWrong : ChangeSpec := { name := "boundsMake", fn := fun _ => fun
  | [d1, d2] => { results := [.lit (.bool false)], args := [d1, d2] }
  | _ => none }
def BoundsMakeWrongFalsely : Prop := boundsMakeRow.holds Try.pinned (OpenSpec.ofChange boundsMakeWrong)

/-- 'fallowlaw03.BoundsKeep': WHATEVER THE INPUT: true; the input reads as it did. -/
def boundsKeepSpec : ChangeSpec := { name := "boundsKeep", fn := fun _ => fun
  | [d1, d2, d3] => { results := [.lit (.bool true)], args := [d1, d2, d3] }
  | _ => none }
def boundsKeepRow : OpenClaim := { program := "ytmfoilobogbpcaa", sum := "85120353ef844c2dcec724b433e54da0801571b3f312f24c00224a827daadfb1", func := "fallow/fallowlaw03.BoundsKeep", spec := "boundsKeep", unfollowed := true, recurses := true, apart := false }
def BoundsKeepSaid : Prop := boundsKeepRow.holds Try.pinned (OpenSpec.ofChange boundsKeepSpec)

/-- ITS FALSE NEIGHBOUR: 'it returns false'. Refute it at one input. -/
def boundsKeepWrong : ChangeSpec := { name := "boundsKeep", fn := fun _ => fun
  | [d1, d2, d3] => { results := [.lit (.bool false)], args := [d1, d2, d3] }
  | _ => none }
def BoundsKeepWrongFalsely : Prop := boundsKeepRow.holds Try.pinned (OpenSpec.ofChange boundsKeepWrong)

/-- 'fallowlaw03.BoundsRound': WHATEVER THE INPUT: true; the input reads as it did. -/
def boundsRoundSpec : ChangeSpec := { name := "boundsRound", fn := fun _ => fun
  | [d1, d2] => { results := [.lit (.bool true)], args := [d1, d2] }
  | _ => none }
def boundsRoundRow : OpenClaim := { program := "ytmfoilobogbpcaa", sum := "85120353ef844c2dcec724b433e54da0801571b3f312f24c00224a827daadfb1", func := "fallow/fallowlaw03.BoundsRound", spec := "boundsRound", unfollowed := true, recurses := true, apart := false }
def BoundsRoundSaid : Prop := boundsRoundRow.holds Try.pinned (OpenSpec.ofChange boundsRoundSpec)

/-- ITS FALSE NEIGHBOUR: 'it returns false'. Refute it at one input. -/
def boundsRoundWrong : ChangeSpec := { name := "boundsRound", fn := fun _ => fun
  | [d1, d2] => { results := [.lit (.bool false)], args := [d1, d2] }
  | _ => none }
def BoundsRoundWrongFalsely : Prop := boundsRoundRow.holds Try.pinned (OpenSpec.ofChange boundsRoundWrong)

/-- 'fallowlaw03.BoundsHold': WHATEVER THE INPUT: true; the input reads as it did. -/
def boundsHoldSpec : ChangeSpec := { name := "boundsHold", fn := fun _ => fun
  | [d1, d2, d3] => { results := [.lit (.bool true)], args := [d1, d2, d3] }
  | _ => none }
def boundsHoldRow : OpenClaim := { program := "ytmfoilobogbpcaa", sum := "85120353ef844c2dcec724b433e54da0801571b3f312f24c00224a827daadfb1", func := "fallow/fallowlaw03.BoundsHold", spec := "boundsHold", unfollowed := true, recurses := true, apart := false }
def BoundsHoldSaid : Prop := boundsHoldRow.holds Try.pinned (OpenSpec.ofChange boundsHoldSpec)

/-- ITS FALSE NEIGHBOUR: 'it returns false'. Refute it at one input. -/
def boundsHoldWrong : ChangeSpec := { name := "boundsHold", fn := fun _ => fun
  | [d1, d2, d3] => { results := [.lit (.bool false)], args := [d1, d2, d3] }
  | _ => none }
def BoundsHoldWrongFalsely : Prop := boundsHoldRow.holds Try.pinned (OpenSpec.ofChange boundsHoldWrong)

/-- 'fallowlaw03.BoundsExact': WHATEVER THE INPUT: true; the input reads as it did. -/
def boundsExactSpec : ChangeSpec := { name := "boundsExact", fn := fun _ => fun
  | [d1, d2] => { results := [.lit (.bool true)], args := [d1, d2] }
  | _ => none }
def boundsExactRow : OpenClaim := { program := "ytmfoilobogbpcaa", sum := "85120353ef844c2dcec724b433e54da0801571b3f312f24c00224a827daadfb1", func := "fallow/fallowlaw03.BoundsExact", spec := "boundsExact", unfollowed := true, recurses := true, apart := false }
def BoundsExactSaid : Prop := boundsExactRow.holds Try.pinned (OpenSpec.ofChange boundsExactSpec)

/-- ITS FALSE NEIGHBOUR: 'it returns false'. Refute it at one input. -/
def boundsExactWrong : ChangeSpec := { name := "boundsExact", fn := fun _ => fun
  | [d1, d2] => { results := [.lit (.bool false)], args := [d1, d2] }
  | _ => none }
def BoundsExactWrongFalsely : Prop := boundsExactRow.holds Try.pinned (OpenSpec.ofChange boundsExactWrong)

/-- 'fallowlaw03.BoundsPad': WHATEVER THE INPUT: true; the input reads as it did. -/
def boundsPadSpec : ChangeSpec := { name := "boundsPad", fn := fun _ => fun
  | [d] => { results := [.lit (.bool true)], args := [d] }
  | _ => none }
def boundsPadRow : OpenClaim := { program := "ytmfoilobogbpcaa", sum := "85120353ef844c2dcec724b433e54da0801571b3f312f24c00224a827daadfb1", func := "fallow/fallowlaw03.BoundsPad", spec := "boundsPad", unfollowed := true, recurses := true, apart := false }
def BoundsPadSaid : Prop := boundsPadRow.holds Try.pinned (OpenSpec.ofChange boundsPadSpec)

/-- ITS FALSE NEIGHBOUR: 'it returns false'. Refute it at one input. -/
def boundsPadWrong : ChangeSpec := { name := "boundsPad", fn := fun _ => fun
  | [d] => { results := [.lit (.bool false)], args := [d] }
  | _ => none }
def BoundsPadWrongFalsely : Prop := boundsPadRow.holds Try.pinned (OpenSpec.ofChange boundsPadWrong)

/-- 'fallowlaw03.BoundsPadded': WHATEVER THE INPUT: true; the input reads as it did. -/
def boundsPaddedSpec : ChangeSpec := { name := "boundsPadded", fn := fun _ => fun
  | [d1, d2] => { results := [.lit (.bool true)], args := [d1, d2] }
  | _ => none }
def boundsPaddedRow : OpenClaim := { program := "ytmfoilobogbpcaa", sum := "85120353ef844c2dcec724b433e54da0801571b3f312f24c00224a827daadfb1", func := "fallow/fallowlaw03.BoundsPadded", spec := "boundsPadded", unfollowed := true, recurses := true, apart := false }
def BoundsPaddedSaid : Prop := boundsPaddedRow.holds Try.pinned (OpenSpec.ofChange boundsPaddedSpec)

/-- ITS FALSE NEIGHBOUR: 'it returns false'. Refute it at one input. -/
def boundsPaddedWrong : ChangeSpec := { name := "boundsPadded", fn := fun _ => fun
  | [d1, d2] => { results := [.lit (.bool false)], args := [d1, d2] }
  | _ => none }
def BoundsPaddedWrongFalsely : Prop := boundsPaddedRow.holds Try.pinned (OpenSpec.ofChange boundsPaddedWrong)

/-- 'fallowlaw03.BoundsWander': WHATEVER THE INPUT: true; the input reads as it did. -/
def boundsWanderSpec : ChangeSpec := { name := "boundsWander", fn := fun _ => fun
  | [d1, d2, d3] => { results := [.lit (.bool true)], args := [d1, d2, d3] }
  | _ => none }
def boundsWanderRow : OpenClaim := { program := "ytmfoilobogbpcaa", sum := "85120353ef844c2dcec724b433e54da0801571b3f312f24c00224a827daadfb1", func := "fallow/fallowlaw03.BoundsWander", spec := "boundsWander", unfollowed := true, recurses := true, apart := false }
def BoundsWanderSaid : Prop := boundsWanderRow.holds Try.pinned (OpenSpec.ofChange boundsWanderSpec)

/-- ITS FALSE NEIGHBOUR: 'it returns false'. Refute it at one input. -/
def boundsWanderWrong : ChangeSpec := { name := "boundsWander", fn := fun _ => fun
  | [d1, d2, d3] => { results := [.lit (.bool false)], args := [d1, d2, d3] }
  | _ => none }
def BoundsWanderWrongFalsely : Prop := boundsWanderRow.holds Try.pinned (OpenSpec.ofChange boundsWanderWrong)

/-- 'fallowlaw03.BoundsKnown': WHATEVER THE INPUT: true; the input reads as it did. -/
def boundsKnownSpec : ChangeSpec := { name := "boundsKnown", fn := fun _ => fun
  | [] => { results := [.lit (.bool true)], args := [] }
  | _ => none }
def boundsKnownRow : OpenClaim := { program := "ytmfoilobogbpcaa", sum := "85120353ef844c2dcec724b433e54da0801571b3f312f24c00224a827daadfb1", func := "fallow/fallowlaw03.BoundsKnown", spec := "boundsKnown", unfollowed := true, recurses := true, apart := false }
def BoundsKnownSaid : Prop := boundsKnownRow.holds Try.pinned (OpenSpec.ofChange boundsKnownSpec)

/-- ITS FALSE NEIGHBOUR: 'it returns false'. Refute it at one input. -/
def boundsKnownWrong : ChangeSpec := { name := "boundsKnown", fn := fun _ => fun
  | [] => { results := [.lit (.bool false)], args := [] }
  | _ => none }
def BoundsKnownWrongFalsely : Prop := boundsKnownRow.holds Try.pinned (OpenSpec.ofChange boundsKnownWrong)

/- THE SECOND FORM. 'bulk': how many values and letters a reading holds, each counted each time it is reached (what is shared counts as often as it is met; a slice's spare places count too). A statement '..UptoSaid' is the law's where the arguments, and the package variables that the reading takes, are together of bulk at most 1048576: NARROWER than '..Said'. Prove '..Said' where nothing that the law and all that it calls make is longer than what came in: it says more and counts as full. Else prove '..UptoSaid'. A law counts once. -/
mutual
def uptoBulk {H : Type} : DataW H → Nat
  | .lit (.string bytes) => bytes.length + 1
  | .lit _ => 1
  | .nil => 1
  | .ptr d => uptoBulk d + 1
  | .slice elems spare => uptoBulkAll elems + uptoBulkAll spare + 1
  | .agg parts => uptoBulkAll parts + 1
  | .iface _ d => uptoBulk d + 1
  | .map entries => uptoBulkEntries entries + 1
  | .held _ => 1
def uptoBulkAll {H : Type} : List (DataW H) → Nat
  | [] => 0
  | d :: r => uptoBulk d + uptoBulkAll r
def uptoBulkEntries {H : Type} : List (Lit × DataW H) → Nat
  | [] => 0
  | x :: r => uptoBulkEntry x + uptoBulkEntries r
def uptoBulkEntry {H : Type} : Lit × DataW H → Nat
  | (.string bytes, d) => bytes.length + uptoBulk d + 1
  | (_, d) => uptoBulk d + 1
 end
def uptoSmall : (H : Type) → List (DataW H) → Bool := fun _ ds => decide (uptoBulkAll ds ≤ 1048576)
def OpenSpec.upto (s : _root_.Go.ChangeSpec) : _root_.Go.OpenSpec := { _root_.Go.OpenSpec.ofChange s with cond := some uptoSmall }

/-- 'fallowlaw03.BoundsTell', WHERE WHAT IT READS IS OF BULK AT MOST 1048576: true; the input reads as it did. -/
def boundsTellUptoRow : OpenClaim := { program := "ytmfoilobogbpcaa", sum := "85120353ef844c2dcec724b433e54da0801571b3f312f24c00224a827daadfb1", func := "fallow/fallowlaw03.BoundsTell", spec := "boundsTell", unfollowed := true, recurses := true, apart := false, narrowed := true }
def BoundsTellUptoSaid : Prop := boundsTellUptoRow.holds Try.pinned (OpenSpec.upto boundsTellSpec)

/-- 'fallowlaw03.BoundsMake', WHERE WHAT IT READS IS OF BULK AT MOST 1048576: true; the input reads as it did. -/
def boundsMakeUptoRow : OpenClaim := { program := "ytmfoilobogbpcaa", sum := "85120353ef844c2dcec724b433e54da0801571b3f312f24c00224a827daadfb1", func := "fallow/fallowlaw03.BoundsMake", spec := "boundsMake", unfollowed := true, recurses := true, apart := false, narrowed := true }
def BoundsMakeUptoSaid : Prop := boundsMakeUptoRow.holds Try.pinned (OpenSpec.upto boundsMakeSpec)

/-- 'fallowlaw03.BoundsKeep', WHERE WHAT IT READS IS OF BULK AT MOST 1048576: true; the input reads as it did. -/
def boundsKeepUptoRow : OpenClaim := { program := "ytmfoilobogbpcaa", sum := "85120353ef844c2dcec724b433e54da0801571b3f312f24c00224a827daadfb1", func := "fallow/fallowlaw03.BoundsKeep", spec := "boundsKeep", unfollowed := true, recurses := true, apart := false, narrowed := true }
def BoundsKeepUptoSaid : Prop := boundsKeepUptoRow.holds Try.pinned (OpenSpec.upto boundsKeepSpec)

/-- 'fallowlaw03.BoundsRound', WHERE WHAT IT READS IS OF BULK AT MOST 1048576: true; the input reads as it did. -/
def boundsRoundUptoRow : OpenClaim := { program := "ytmfoilobogbpcaa", sum := "85120353ef844c2dcec724b433e54da0801571b3f312f24c00224a827daadfb1", func := "fallow/fallowlaw03.BoundsRound", spec := "boundsRound", unfollowed := true, recurses := true, apart := false, narrowed := true }
def BoundsRoundUptoSaid : Prop := boundsRoundUptoRow.holds Try.pinned (OpenSpec.upto boundsRoundSpec)

/-- 'fallowlaw03.BoundsHold', WHERE WHAT IT READS IS OF BULK AT MOST 1048576: true; the input reads as it did. -/
def boundsHoldUptoRow : OpenClaim := { program := "ytmfoilobogbpcaa", sum := "85120353ef844c2dcec724b433e54da0801571b3f312f24c00224a827daadfb1", func := "fallow/fallowlaw03.BoundsHold", spec := "boundsHold", unfollowed := true, recurses := true, apart := false, narrowed := true }
def BoundsHoldUptoSaid : Prop := boundsHoldUptoRow.holds Try.pinned (OpenSpec.upto boundsHoldSpec)

/-- 'fallowlaw03.BoundsExact', WHERE WHAT IT READS IS OF BULK AT MOST 1048576: true; the input reads as it did. -/
def boundsExactUptoRow : OpenClaim := { program := "ytmfoilobogbpcaa", sum := "85120353ef844c2dcec724b433e54da0801571b3f312f24c00224a827daadfb1", func := "fallow/fallowlaw03.BoundsExact", spec := "boundsExact", unfollowed := true, recurses := true, apart := false, narrowed := true }
def BoundsExactUptoSaid : Prop := boundsExactUptoRow.holds Try.pinned (OpenSpec.upto boundsExactSpec)

/-- 'fallowlaw03.BoundsPad', WHERE WHAT IT READS IS OF BULK AT MOST 1048576: true; the input reads as it did. -/
def boundsPadUptoRow : OpenClaim := { program := "ytmfoilobogbpcaa", sum := "85120353ef844c2dcec724b433e54da0801571b3f312f24c00224a827daadfb1", func := "fallow/fallowlaw03.BoundsPad", spec := "boundsPad", unfollowed := true, recurses := true, apart := false, narrowed := true }
def BoundsPadUptoSaid : Prop := boundsPadUptoRow.holds Try.pinned (OpenSpec.upto boundsPadSpec)

/-- 'fallowlaw03.BoundsPadded', WHERE WHAT IT READS IS OF BULK AT MOST 1048576: true; the input reads as it did. -/
def boundsPaddedUptoRow : OpenClaim := { program := "ytmfoilobogbpcaa", sum := "85120353ef844c2dcec724b433e54da0801571b3f312f24c00224a827daadfb1", func := "fallow/fallowlaw03.BoundsPadded", spec := "boundsPadded", unfollowed := true, recurses := true, apart := false, narrowed := true }
def BoundsPaddedUptoSaid : Prop := boundsPaddedUptoRow.holds Try.pinned (OpenSpec.upto boundsPaddedSpec)

/-- 'fallowlaw03.BoundsWander', WHERE WHAT IT READS IS OF BULK AT MOST 1048576: true; the input reads as it did. -/
def boundsWanderUptoRow : OpenClaim := { program := "ytmfoilobogbpcaa", sum := "85120353ef844c2dcec724b433e54da0801571b3f312f24c00224a827daadfb1", func := "fallow/fallowlaw03.BoundsWander", spec := "boundsWander", unfollowed := true, recurses := true, apart := false, narrowed := true }
def BoundsWanderUptoSaid : Prop := boundsWanderUptoRow.holds Try.pinned (OpenSpec.upto boundsWanderSpec)

/-- 'fallowlaw03.BoundsKnown', WHERE WHAT IT READS IS OF BULK AT MOST 1048576: true; the input reads as it did. -/
def boundsKnownUptoRow : OpenClaim := { program := "ytmfoilobogbpcaa", sum := "85120353ef844c2dcec724b433e54da0801571b3f312f24c00224a827daadfb1", func := "fallow/fallowlaw03.BoundsKnown", spec := "boundsKnown", unfollowed := true, recurses := true, apart := false, narrowed := true }
def BoundsKnownUptoSaid : Prop := boundsKnownUptoRow.holds Try.pinned (OpenSpec.upto boundsKnownSpec)

end Rows
end Go.Proofs.Ytmfoilobogbpcaa

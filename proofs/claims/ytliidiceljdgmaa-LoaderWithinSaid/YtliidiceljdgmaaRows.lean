/-
  No cell of these rows narrows 'for every input' (looked for: loops, veiled, ifaces, maps, wideKeys, modest, calm, conditions, laid).
  DERIVED. THE GIVEN ROWS OF THIS SEAT. 5 by the template 'for every input the law returns true; each argument reads behind the call as it read before'; 0 by the template 'total and deterministic' (their statements: YtliidiceljdgmaaTotals.lean).
  GIVEN WITH THE SEED: the statements are not yours to turn. If you find one false, say at which input.
  Laid BY PROGRAM, IN A SANDBOX (cutbox-rows.mjs): the forced cells as the released guide's own fill.sh prints them over the translation ff76905cd01b8ce8… (all of the seat's roots in one cut). By AI agents, Wed Nov 11 2026. No macro, syntax, notation, axiom, sorry.
-/
import Derived.Test.YtliidiceljdgmaaChecked
import GoSem.Claim
import GoSem.ClaimJoined
import GoSem.ClaimMapViews
import Derived.JoinedTies
import Derived.KernelRfl
namespace Go.Proofs.Ytliidiceljdgmaa
/- THE CELL 'sum', in the pinned program and in every row, IS THE sha256 OF THE DUMP (.gsa) THAT YtliidiceljdgmaaProg.lean LOADS. Nothing in Lean hashes anything: it is a label: what it is worth is what the hold of that sum in a sandbox is worth. -/
noncomputable def Try.pinned : Pinned := { name := "ytliidiceljdgmaa", sum := "ff76905cd01b8ce87372db8a62769c74f6ccc921dcd212366b7e029b75cf3bd8", checked := Try.checked }
namespace Rows
def none {H : Type} : Left H := { results := [], args := [] }

/-- 'fallowlaw22.LoaderBoots': WHATEVER THE INPUT: true; the input reads as it did. -/
def loaderBootsSpec : ChangeSpec := { name := "loaderBoots", fn := fun _ => fun
  | [d] => { results := [.lit (.bool true)], args := [d] }
  | _ => none }
def loaderBootsRow : OpenClaim := { program := "ytliidiceljdgmaa", sum := "ff76905cd01b8ce87372db8a62769c74f6ccc921dcd212366b7e029b75cf3bd8", func := "fallow/fallowlaw22.LoaderBoots", spec := "loaderBoots", unfollowed := true, recurses := true, apart := false }
def LoaderBootsSaid : Prop := loaderBootsRow.holds Try.pinned (OpenSpec.ofChange loaderBootsSpec)

/-- ITS FALSE NEIGHBOUR: 'it returns false'. Refute it at one input. -/
def loaderBootsWrong : ChangeSpec := { name := "loaderBoots", fn := fun _ => fun
  | [d] => { results := [.lit (.bool false)], args := [d] }
  | _ => none }
def LoaderBootsWrongFalsely : Prop := loaderBootsRow.holds Try.pinned (OpenSpec.ofChange loaderBootsWrong)

/-- 'fallowlaw22.LoaderKnown': WHATEVER THE INPUT: true; the input reads as it did. -/
def loaderKnownSpec : ChangeSpec := { name := "loaderKnown", fn := fun _ => fun
  | [] => { results := [.lit (.bool true)], args := [] }
  | _ => none }
def loaderKnownRow : OpenClaim := { program := "ytliidiceljdgmaa", sum := "ff76905cd01b8ce87372db8a62769c74f6ccc921dcd212366b7e029b75cf3bd8", func := "fallow/fallowlaw22.LoaderKnown", spec := "loaderKnown", unfollowed := true, recurses := true, apart := false }
def LoaderKnownSaid : Prop := loaderKnownRow.holds Try.pinned (OpenSpec.ofChange loaderKnownSpec)

/-- ITS FALSE NEIGHBOUR: 'it returns false'. Refute it at one input. -/
def loaderKnownWrong : ChangeSpec := { name := "loaderKnown", fn := fun _ => fun
  | [] => { results := [.lit (.bool false)], args := [] }
  | _ => none }
def LoaderKnownWrongFalsely : Prop := loaderKnownRow.holds Try.pinned (OpenSpec.ofChange loaderKnownWrong)

/-- 'fallowlaw22.LoaderLies': WHATEVER THE INPUT: true; the input reads as it did. -/
def loaderLiesSpec : ChangeSpec := { name := "loaderLies", fn := fun _ => fun
  | [d] => { results := [.lit (.bool true)], args := [d] }
  | _ => none }
def loaderLiesRow : OpenClaim := { program := "ytliidiceljdgmaa", sum := "ff76905cd01b8ce87372db8a62769c74f6ccc921dcd212366b7e029b75cf3bd8", func := "fallow/fallowlaw22.LoaderLies", spec := "loaderLies", unfollowed := true, recurses := true, apart := false }
def LoaderLiesSaid : Prop := loaderLiesRow.holds Try.pinned (OpenSpec.ofChange loaderLiesSpec)

/-- ITS FALSE NEIGHBOUR: 'it returns false'. Refute it at one input. -/
def loaderLiesWrong : ChangeSpec := { name := "loaderLies", fn := fun _ => fun
  | [d] => { results := [.lit (.bool false)], args := [d] }
  | _ => none }
def LoaderLiesWrongFalsely : Prop := loaderLiesRow.holds Try.pinned (OpenSpec.ofChange loaderLiesWrong)

/-- 'fallowlaw22.LoaderWithin': WHATEVER THE INPUT: true; the input reads as it did. -/
def loaderWithinSpec : ChangeSpec := { name := "loaderWithin", fn := fun _ => fun
  | [d] => { results := [.lit (.bool true)], args := [d] }
  | _ => none }
def loaderWithinRow : OpenClaim := { program := "ytliidiceljdgmaa", sum := "ff76905cd01b8ce87372db8a62769c74f6ccc921dcd212366b7e029b75cf3bd8", func := "fallow/fallowlaw22.LoaderWithin", spec := "loaderWithin", unfollowed := true, recurses := true, apart := false }
def LoaderWithinSaid : Prop := loaderWithinRow.holds Try.pinned (OpenSpec.ofChange loaderWithinSpec)

/-- ITS FALSE NEIGHBOUR: 'it returns false'. Refute it at one input. -/
def loaderWithinWrong : ChangeSpec := { name := "loaderWithin", fn := fun _ => fun
  | [d] => { results := [.lit (.bool false)], args := [d] }
  | _ => none }
def LoaderWithinWrongFalsely : Prop := loaderWithinRow.holds Try.pinned (OpenSpec.ofChange loaderWithinWrong)

/-- 'fallowlaw22.LoaderClean': WHATEVER THE INPUT: true; the input reads as it did. -/
def loaderCleanSpec : ChangeSpec := { name := "loaderClean", fn := fun _ => fun
  | [d] => { results := [.lit (.bool true)], args := [d] }
  | _ => none }
def loaderCleanRow : OpenClaim := { program := "ytliidiceljdgmaa", sum := "ff76905cd01b8ce87372db8a62769c74f6ccc921dcd212366b7e029b75cf3bd8", func := "fallow/fallowlaw22.LoaderClean", spec := "loaderClean", unfollowed := true, recurses := true, apart := false }
def LoaderCleanSaid : Prop := loaderCleanRow.holds Try.pinned (OpenSpec.ofChange loaderCleanSpec)

/-- ITS FALSE NEIGHBOUR: 'it returns false'. Refute it at one input. -/
def loaderCleanWrong : ChangeSpec := { name := "loaderClean", fn := fun _ => fun
  | [d] => { results := [.lit (.bool false)], args := [d] }
  | _ => none }
def LoaderCleanWrongFalsely : Prop := loaderCleanRow.holds Try.pinned (OpenSpec.ofChange loaderCleanWrong)

/- THE SECOND FORM. 'bulk': how many values and letters a reading holds, each counted each time it is reached (what is shared counts as often as it is met; a slice's spare places count too). A statement '..UptoSaid' is the law's where the arguments, and the package variables that the reading takes, are together of bulk at most 1048576: NARROWER than '..Said'. Prove '..Said' where nothing that the law and all that it calls make is longer than what came in: it says more and counts as full. Else prove '..UptoSaid'. A law counts once. -/
mutual
def uptoBulk {H : Type} : DataW H → Nat
  | .lit (.string bytes) => bytes.length + 1
  | .lit _ => 1
  | .nil => 1
  | .ptr d => uptoBulk d + 1
  | .slice elems spare => uptoBulkAll elems + uptoBulkAll spare + 1
  | .agg parts => uptoBulkAll parts + 1
  | .iface _ d => uptoBulk d + 1
  | .map entries => uptoBulkEntries entries + 1
  | .held _ => 1
def uptoBulkAll {H : Type} : List (DataW H) → Nat
  | [] => 0
  | d :: r => uptoBulk d + uptoBulkAll r
def uptoBulkEntries {H : Type} : List (Lit × DataW H) → Nat
  | [] => 0
  | x :: r => uptoBulkEntry x + uptoBulkEntries r
def uptoBulkEntry {H : Type} : Lit × DataW H → Nat
  | (.string bytes, d) => bytes.length + uptoBulk d + 1
  | (_, d) => uptoBulk d + 1
 end
def uptoSmall : (H : Type) → List (DataW H) → Bool := fun _ ds => decide (uptoBulkAll ds ≤ 1048576)
def OpenSpec.upto (s : _root_.Go.ChangeSpec) : _root_.Go.OpenSpec := { _root_.Go.OpenSpec.ofChange s with cond := some uptoSmall }

/-- 'fallowlaw22.LoaderBoots', WHERE WHAT IT READS IS OF BULK AT MOST 1048576: true; the input reads as it did. -/
def loaderBootsUptoRow : OpenClaim := { program := "ytliidiceljdgmaa", sum := "ff76905cd01b8ce87372db8a62769c74f6ccc921dcd212366b7e029b75cf3bd8", func := "fallow/fallowlaw22.LoaderBoots", spec := "loaderBoots", unfollowed := true, recurses := true, apart := false, narrowed := true }
def LoaderBootsUptoSaid : Prop := loaderBootsUptoRow.holds Try.pinned (OpenSpec.upto loaderBootsSpec)

/-- 'fallowlaw22.LoaderKnown', WHERE WHAT IT READS IS OF BULK AT MOST 1048576: true; the input reads as it did. -/
def loaderKnownUptoRow : OpenClaim := { program := "ytliidiceljdgmaa", sum := "ff76905cd01b8ce87372db8a62769c74f6ccc921dcd212366b7e029b75cf3bd8", func := "fallow/fallowlaw22.LoaderKnown", spec := "loaderKnown", unfollowed := true, recurses := true, apart := false, narrowed := true }
def LoaderKnownUptoSaid : Prop := loaderKnownUptoRow.holds Try.pinned (OpenSpec.upto loaderKnownSpec)

/-- 'fallowlaw22.LoaderLies', WHERE WHAT IT READS IS OF BULK AT MOST 1048576: true; the input reads as it did. -/
def loaderLiesUptoRow : OpenClaim := { program := "ytliidiceljdgmaa", sum := "ff76905cd01b8ce87372db8a62769c74f6ccc921dcd212366b7e029b75cf3bd8", func := "fallow/fallowlaw22.LoaderLies", spec := "loaderLies", unfollowed := true, recurses := true, apart := false, narrowed := true }
def LoaderLiesUptoSaid : Prop := loaderLiesUptoRow.holds Try.pinned (OpenSpec.upto loaderLiesSpec)

/-- 'fallowlaw22.LoaderWithin', WHERE WHAT IT READS IS OF BULK AT MOST 1048576: true; the input reads as it did. -/
def loaderWithinUptoRow : OpenClaim := { program := "ytliidiceljdgmaa", sum := "ff76905cd01b8ce87372db8a62769c74f6ccc921dcd212366b7e029b75cf3bd8", func := "fallow/fallowlaw22.LoaderWithin", spec := "loaderWithin", unfollowed := true, recurses := true, apart := false, narrowed := true }
def LoaderWithinUptoSaid : Prop := loaderWithinUptoRow.holds Try.pinned (OpenSpec.upto loaderWithinSpec)

/-- 'fallowlaw22.LoaderClean', WHERE WHAT IT READS IS OF BULK AT MOST 1048576: true; the input reads as it did. -/
def loaderCleanUptoRow : OpenClaim := { program := "ytliidiceljdgmaa", sum := "ff76905cd01b8ce87372db8a62769c74f6ccc921dcd212366b7e029b75cf3bd8", func := "fallow/fallowlaw22.LoaderClean", spec := "loaderClean", unfollowed := true, recurses := true, apart := false, narrowed := true }
def LoaderCleanUptoSaid : Prop := loaderCleanUptoRow.holds Try.pinned (OpenSpec.upto loaderCleanSpec)

end Rows
end Go.Proofs.Ytliidiceljdgmaa

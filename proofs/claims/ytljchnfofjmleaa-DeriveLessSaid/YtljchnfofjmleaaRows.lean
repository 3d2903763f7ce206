/-
  No cell of these rows narrows 'for every input' (looked for: loops, veiled, ifaces, maps, wideKeys, modest, calm, conditions, laid).
  DERIVED. THE GIVEN ROWS OF THIS SEAT. 12 by the template 'for every input the law returns true; each argument reads behind the call as it read before'; 0 by the template 'total and deterministic' (their statements: YtljchnfofjmleaaTotals.lean).
  GIVEN WITH THE SEED: the statements are not yours to turn. If you find one false, say at which input.
  Laid BY PROGRAM, IN A SANDBOX (cutbox-rows.mjs): the forced cells as the released guide's own fill.sh prints them over the translation 9dd94a114348a767… (all of the seat's roots in one cut). By AI agents, Wed Nov 11 2026. No macro, syntax, notation, axiom, sorry.
-/
import Derived.Test.YtljchnfofjmleaaChecked
import GoSem.Claim
import GoSem.ClaimJoined
import GoSem.ClaimMapViews
import Derived.JoinedTies
import Derived.KernelRfl
namespace Go.Proofs.Ytljchnfofjmleaa
/- THE CELL 'sum', in the pinned program and in every row, IS THE sha256 OF THE DUMP (.gsa) THAT YtljchnfofjmleaaProg.lean LOADS. Nothing in Lean hashes anything: it is a label: what it is worth is what the hold of that sum in a sandbox is worth. -/
noncomputable def Try.pinned : Pinned := { name := "ytljchnfofjmleaa", sum := "9dd94a114348a767a2780c75c122b19dfae00bd4a2b8d0fa2db13c1a0032e19f", checked := Try.checked }
namespace Rows
def none {H : Type} : Left H := { results := [], args := [] }

/-- 'fallowlaw05.DeriveSet': WHATEVER THE INPUT: true; the input reads as it did. -/
def deriveSetSpec : ChangeSpec := { name := "deriveSet", fn := fun _ => fun
  | [d1, d2] => { results := [.lit (.bool true)], args := [d1, d2] }
  | _ => none }
def deriveSetRow : OpenClaim := { program := "ytljchnfofjmleaa", sum := "9dd94a114348a767a2780c75c122b19dfae00bd4a2b8d0fa2db13c1a0032e19f", func := "fallow/fallowlaw05.DeriveSet", spec := "deriveSet", unfollowed := true, recurses := true, apart := false }
def DeriveSetSaid : Prop := deriveSetRow.holds Try.pinned (OpenSpec.ofChange deriveSetSpec)

/-- ITS FALSE NEIGHBOUR: 'it returns false'. Refute it at one input. -/
def deriveSetWrong : ChangeSpec := { name := "deriveSet", fn := fun _ => fun
  | [d1, d2] => { results := [.lit (.bool false)], args := [d1, d2] }
  | _ => none }
def DeriveSetWrongFalsely : Prop := deriveSetRow.holds Try.pinned (OpenSpec.ofChange deriveSetWrong)

/-- 'fallowlaw05.DeriveExact': WHATEVER THE INPUT: true; the input reads as it did. -/
def deriveExactSpec : ChangeSpec := { name := "deriveExact", fn := fun _ => fun
  | [d1, d2] => { results := [.lit (.bool true)], args := [d1, d2] }
  | _ => none }
def deriveExactRow : OpenClaim := { program := "ytljchnfofjmleaa", sum := "9dd94a114348a767a2780c75c122b19dfae00bd4a2b8d0fa2db13c1a0032e19f", func := "fallow/fallowlaw05.DeriveExact", spec := "deriveExact", unfollowed := true, recurses := true, apart := false }
def DeriveExactSaid : Prop := deriveExactRow.holds Try.pinned (OpenSpec.ofChange deriveExactSpec)

/-- ITS FALSE NEIGHBOUR: 'it returns false'. Refute it at one input. -/
def deriveExactWrong : ChangeSpec := { name := "deriveExact", fn := fun _ => fun
  | [d1, d2] => { results := [.lit (.bool false)], args := [d1, d2] }
  | _ => none }
def DeriveExactWrongFalsely : Prop := deriveExactRow.holds Try.pinned (OpenSpec.ofChange deriveExactWrong)

/-- 'fallowlaw05.DeriveAnd': WHATEVER THE INPUT: true; the input reads as it did. -/
def deriveAndSpec : ChangeSpec := { name := "deriveAnd", fn := fun _ => fun
  | [d1, d2] => { results := [.lit (.bool true)], args := [d1, d2] }
  | _ => none }
def deriveAndRow : OpenClaim := { program := "ytljchnfofjmleaa", sum := "9dd94a114348a767a2780c75c122b19dfae00bd4a2b8d0fa2db13c1a0032e19f", func := "fallow/fallowlaw05.DeriveAnd", spec := "deriveAnd", unfollowed := true, recurses := true, apart := false }
def DeriveAndSaid : Prop := deriveAndRow.holds Try.pinned (OpenSpec.ofChange deriveAndSpec)

/-- ITS FALSE NEIGHBOUR: 'it returns false'. Refute it at one input. -/
def deriveAndWrong : ChangeSpec := { name := "deriveAnd", fn := fun _ => fun
  | [d1, d2] => { results := [.lit (.bool false)], args := [d1, d2] }
  | _ => none }
def DeriveAndWrongFalsely : Prop := deriveAndRow.holds Try.pinned (OpenSpec.ofChange deriveAndWrong)

/-- 'fallowlaw05.DeriveAddr': WHATEVER THE INPUT: true; the input reads as it did. -/
def deriveAddrSpec : ChangeSpec := { name := "deriveAddr", fn := fun _ => fun
  | [d1, d2] => { results := [.lit (.bool true)], args := [d1, d2] }
  | _ => none }
def deriveAddrRow : OpenClaim := { program := "ytljchnfofjmleaa", sum := "9dd94a114348a767a2780c75c122b19dfae00bd4a2b8d0fa2db13c1a0032e19f", func := "fallow/fallowlaw05.DeriveAddr", spec := "deriveAddr", unfollowed := true, recurses := true, apart := false }
def DeriveAddrSaid : Prop := deriveAddrRow.holds Try.pinned (OpenSpec.ofChange deriveAddrSpec)

/-- ITS FALSE NEIGHBOUR: 'it returns false'. Refute it at one input. -/
def deriveAddrWrong : ChangeSpec := { name := "deriveAddr", fn := fun _ => fun
  | [d1, d2] => { results := [.lit (.bool false)], args := [d1, d2] }
  | _ => none }
def DeriveAddrWrongFalsely : Prop := deriveAddrRow.holds Try.pinned (OpenSpec.ofChange deriveAddrWrong)

/-- 'fallowlaw05.DeriveSeal': WHATEVER THE INPUT: true; the input reads as it did. -/
def deriveSealSpec : ChangeSpec := { name := "deriveSeal", fn := fun _ => fun
  | [d1, d2] => { results := [.lit (.bool true)], args := [d1, d2] }
  | _ => none }
def deriveSealRow : OpenClaim := { program := "ytljchnfofjmleaa", sum := "9dd94a114348a767a2780c75c122b19dfae00bd4a2b8d0fa2db13c1a0032e19f", func := "fallow/fallowlaw05.DeriveSeal", spec := "deriveSeal", unfollowed := true, recurses := true, apart := false }
def DeriveSealSaid : Prop := deriveSealRow.holds Try.pinned (OpenSpec.ofChange deriveSealSpec)

/-- ITS FALSE NEIGHBOUR: 'it returns false'. Refute it at one input. -/
def deriveSealWrong : ChangeSpec := { name := "deriveSeal", fn := fun _ => fun
  | [d1, d2] => { results := [.lit (.bool false)], args := [d1, d2] }
  | _ => none }
def DeriveSealWrongFalsely : Prop := deriveSealRow.holds Try.pinned (OpenSpec.ofChange deriveSealWrong)

/-- 'fallowlaw05.DeriveOpen': WHATEVER THE INPUT: true; the input reads as it did. -/
def deriveOpenSpec : ChangeSpec := { name := "deriveOpen", fn := fun _ => fun
  | [d1, d2] => { results := [.lit (.bool true)], args := [d1, d2] }
  | _ => none }
def deriveOpenRow : OpenClaim := { program := "ytljchnfofjmleaa", sum := "9dd94a114348a767a2780c75c122b19dfae00bd4a2b8d0fa2db13c1a0032e19f", func := "fallow/fallowlaw05.DeriveOpen", spec := "deriveOpen", unfollowed := true, recurses := true, apart := false }
def DeriveOpenSaid : Prop := deriveOpenRow.holds Try.pinned (OpenSpec.ofChange deriveOpenSpec)

/-- ITS FALSE NEIGHBOUR: 'it returns false'. Refute it at one input. -/
def deriveOpenWrong : ChangeSpec := { name := "deriveOpen", fn := fun _ => fun
  | [d1, d2] => { results := [.lit (.bool false)], args := [d1, d2] }
  | _ => none }
def DeriveOpenWrongFalsely : Prop := deriveOpenRow.holds Try.pinned (OpenSpec.ofChange deriveOpenWrong)

/-- 'fallowlaw05.DeriveBuild': WHATEVER THE INPUT: true; the input reads as it did. -/
def deriveBuildSpec : ChangeSpec := { name := "deriveBuild", fn := fun _ => fun
  | [d1, d2] => { results := [.lit (.bool true)], args := [d1, d2] }
  | _ => none }
def deriveBuildRow : OpenClaim := { program := "ytljchnfofjmleaa", sum := "9dd94a114348a767a2780c75c122b19dfae00bd4a2b8d0fa2db13c1a0032e19f", func := "fallow/fallowlaw05.DeriveBuild", spec := "deriveBuild", unfollowed := true, recurses := true, apart := false }
def DeriveBuildSaid : Prop := deriveBuildRow.holds Try.pinned (OpenSpec.ofChange deriveBuildSpec)

/-- ITS FALSE NEIGHBOUR: 'it returns false'. Refute it at one input. -/
def deriveBuildWrong : ChangeSpec := { name := "deriveBuild", fn := fun _ => fun
  | [d1, d2] => { results := [.lit (.bool false)], args := [d1, d2] }
  | _ => none }
def DeriveBuildWrongFalsely : Prop := deriveBuildRow.holds Try.pinned (OpenSpec.ofChange deriveBuildWrong)

/-- 'fallowlaw05.DeriveAgain': WHATEVER THE INPUT: true; the input reads as it did. -/
def deriveAgainSpec : ChangeSpec := { name := "deriveAgain", fn := fun _ => fun
  | [d1, d2] => { results := [.lit (.bool true)], args := [d1, d2] }
  | _ => none }
def deriveAgainRow : OpenClaim := { program := "ytljchnfofjmleaa", sum := "9dd94a114348a767a2780c75c122b19dfae00bd4a2b8d0fa2db13c1a0032e19f", func := "fallow/fallowlaw05.DeriveAgain", spec := "deriveAgain", unfollowed := true, recurses := true, apart := false }
def DeriveAgainSaid : Prop := deriveAgainRow.holds Try.pinned (OpenSpec.ofChange deriveAgainSpec)

/-- ITS FALSE NEIGHBOUR: 'it returns false'. Refute it at one input. -/
def deriveAgainWrong : ChangeSpec := { name := "deriveAgain", fn := fun _ => fun
  | [d1, d2] => { results := [.lit (.bool false)], args := [d1, d2] }
  | _ => none }
def DeriveAgainWrongFalsely : Prop := deriveAgainRow.holds Try.pinned (OpenSpec.ofChange deriveAgainWrong)

/-- 'fallowlaw05.DeriveBack': WHATEVER THE INPUT: true; the input reads as it did. -/
def deriveBackSpec : ChangeSpec := { name := "deriveBack", fn := fun _ => fun
  | [d1, d2, d3] => { results := [.lit (.bool true)], args := [d1, d2, d3] }
  | _ => none }
def deriveBackRow : OpenClaim := { program := "ytljchnfofjmleaa", sum := "9dd94a114348a767a2780c75c122b19dfae00bd4a2b8d0fa2db13c1a0032e19f", func := "fallow/fallowlaw05.DeriveBack", spec := "deriveBack", unfollowed := true, recurses := true, apart := false }
def DeriveBackSaid : Prop := deriveBackRow.holds Try.pinned (OpenSpec.ofChange deriveBackSpec)

/-- ITS FALSE NEIGHBOUR: 'it returns false'. Refute it at one input. -/
def deriveBackWrong : ChangeSpec := { name := "deriveBack", fn := fun _ => fun
  | [d1, d2, d3] => { results := [.lit (.bool false)], args := [d1, d2, d3] }
  | _ => none }
def DeriveBackWrongFalsely : Prop := deriveBackRow.holds Try.pinned (OpenSpec.ofChange deriveBackWrong)

/-- 'fallowlaw05.DeriveLess': WHATEVER THE INPUT: true; the input reads as it did. -/
def deriveLessSpec : ChangeSpec := { name := "deriveLess", fn := fun _ => fun
  | [d1, d2] => { results := [.lit (.bool true)], args := [d1, d2] }
  | _ => none }
def deriveLessRow : OpenClaim := { program := "ytljchnfofjmleaa", sum := "9dd94a114348a767a2780c75c122b19dfae00bd4a2b8d0fa2db13c1a0032e19f", func := "fallow/fallowlaw05.DeriveLess", spec := "deriveLess", unfollowed := true, recurses := true, apart := false }
def DeriveLessSaid : Prop := deriveLessRow.holds Try.pinned (OpenSpec.ofChange deriveLessSpec)

/-- ITS FALSE NEIGHBOUR: 'it returns false'. Refute it at one input. -/
def deriveLessWrong : ChangeSpec := { name := "deriveLess", fn := fun _ => fun
  | [d1, d2] => { results := [.lit (.bool false)], args := [d1, d2] }
  | _ => none }
def DeriveLessWrongFalsely : Prop := deriveLessRow.holds Try.pinned (OpenSpec.ofChange deriveLessWrong)

/-- 'fallowlaw05.DeriveSealed': WHATEVER THE INPUT: true; the input reads as it did. -/
def deriveSealedSpec : ChangeSpec := { name := "deriveSealed", fn := fun _ => fun
  | [d1, d2] => { results := [.lit (.bool true)], args := [d1, d2] }
  | _ => none }
def deriveSealedRow : OpenClaim := { program := "ytljchnfofjmleaa", sum := "9dd94a114348a767a2780c75c122b19dfae00bd4a2b8d0fa2db13c1a0032e19f", func := "fallow/fallowlaw05.DeriveSealed", spec := "deriveSealed", unfollowed := true, recurses := true, apart := false }
def DeriveSealedSaid : Prop := deriveSealedRow.holds Try.pinned (OpenSpec.ofChange deriveSealedSpec)

/-- ITS FALSE NEIGHBOUR: 'it returns false'. Refute it at one input. -/
def deriveSealedWrong : ChangeSpec := { name := "deriveSealed", fn := fun _ => fun
  | [d1, d2] => { results := [.lit (.bool false)], args := [d1, d2] }
  | _ => none }
def DeriveSealedWrongFalsely : Prop := deriveSealedRow.holds Try.pinned (OpenSpec.ofChange deriveSealedWrong)

/-- 'fallowlaw05.DeriveKnown': WHATEVER THE INPUT: true; the input reads as it did. -/
def deriveKnownSpec : ChangeSpec := { name := "deriveKnown", fn := fun _ => fun
  | [] => { results := [.lit (.bool true)], args := [] }
  | _ => none }
def deriveKnownRow : OpenClaim := { program := "ytljchnfofjmleaa", sum := "9dd94a114348a767a2780c75c122b19dfae00bd4a2b8d0fa2db13c1a0032e19f", func := "fallow/fallowlaw05.DeriveKnown", spec := "deriveKnown", unfollowed := true, recurses := true, apart := false }
def DeriveKnownSaid : Prop := deriveKnownRow.holds Try.pinned (OpenSpec.ofChange deriveKnownSpec)

/-- ITS FALSE NEIGHBOUR: 'it returns false'. Refute it at one input. -/
def deriveKnownWrong : ChangeSpec := { name := "deriveKnown", fn := fun _ => fun
  | [] => { results := [.lit (.bool false)], args := [] }
  | _ => none }
def DeriveKnownWrongFalsely : Prop := deriveKnownRow.holds Try.pinned (OpenSpec.ofChange deriveKnownWrong)

/- THE SECOND FORM. 'bulk': how many values and letters a reading holds, each counted each time it is reached (what is shared counts as often as it is met; a slice's spare places count too). A statement '..UptoSaid' is the law's where the arguments, and the package variables that the reading takes, are together of bulk at most 1048576: NARROWER than '..Said'. Prove '..Said' where nothing that the law and all that it calls make is longer than what came in: it says more and counts as full. Else prove '..UptoSaid'. A law counts once. -/
mutual
def uptoBulk {H : Type} : DataW H → Nat
  | .lit (.string bytes) => bytes.length + 1
  | .lit _ => 1
  | .nil => 1
  | .ptr d => uptoBulk d + 1
  | .slice elems spare => uptoBulkAll elems + uptoBulkAll spare + 1
  | .agg parts => uptoBulkAll parts + 1
  | .iface _ d => uptoBulk d + 1
  | .map entries => uptoBulkEntries entries + 1
  | .held _ => 1
def uptoBulkAll {H : Type} : List (DataW H) → Nat
  | [] => 0
  | d :: r => uptoBulk d + uptoBulkAll r
def uptoBulkEntries {H : Type} : List (Lit × DataW H) → Nat
  | [] => 0
  | x :: r => uptoBulkEntry x + uptoBulkEntries r
def uptoBulkEntry {H : Type} : Lit × DataW H → Nat
  | (.string bytes, d) => bytes.length + uptoBulk d + 1
  | (_, d) => uptoBulk d + 1
 end
def uptoSmall : (H : Type) → List (DataW H) → Bool := fun _ ds => decide (uptoBulkAll ds ≤ 1048576)
def OpenSpec.upto (s : _root_.Go.ChangeSpec) : _root_.Go.OpenSpec := { _root_.Go.OpenSpec.ofChange s with cond := some uptoSmall }

/-- 'fallowlaw05.DeriveSet', WHERE WHAT IT READS IS OF BULK AT MOST 1048576: true; the input reads as it did. -/
def deriveSetUptoRow : OpenClaim := { program := "ytljchnfofjmleaa", sum := "9dd94a114348a767a2780c75c122b19dfae00bd4a2b8d0fa2db13c1a0032e19f", func := "fallow/fallowlaw05.DeriveSet", spec := "deriveSet", unfollowed := true, recurses := true, apart := false, narrowed := true }
def DeriveSetUptoSaid : Prop := deriveSetUptoRow.holds Try.pinned (OpenSpec.upto deriveSetSpec)

/-- 'fallowlaw05.DeriveExact', WHERE WHAT IT READS IS OF BULK AT MOST 1048576: true; the input reads as it did. -/
def deriveExactUptoRow : OpenClaim := { program := "ytljchnfofjmleaa", sum := "9dd94a114348a767a2780c75c122b19dfae00bd4a2b8d0fa2db13c1a0032e19f", func := "fallow/fallowlaw05.DeriveExact", spec := "deriveExact", unfollowed := true, recurses := true, apart := false, narrowed := true }
def DeriveExactUptoSaid : Prop := deriveExactUptoRow.holds Try.pinned (OpenSpec.upto deriveExactSpec)

/-- 'fallowlaw05.DeriveAnd', WHERE WHAT IT READS IS OF BULK AT MOST 1048576: true; the input reads as it did. -/
def deriveAndUptoRow : OpenClaim := { program := "ytljchnfofjmleaa", sum := "9dd94a114348a767a2780c75c122b19dfae00bd4a2b8d0fa2db13c1a0032e19f", func := "fallow/fallowlaw05.DeriveAnd", spec := "deriveAnd", unfollowed := true, recurses := true, apart := false, narrowed := true }
def DeriveAndUptoSaid : Prop := deriveAndUptoRow.holds Try.pinned (OpenSpec.upto deriveAndSpec)

/-- 'fallowlaw05.DeriveAddr', WHERE WHAT IT READS IS OF BULK AT MOST 1048576: true; the input reads as it did. -/
def deriveAddrUptoRow : OpenClaim := { program := "ytljchnfofjmleaa", sum := "9dd94a114348a767a2780c75c122b19dfae00bd4a2b8d0fa2db13c1a0032e19f", func := "fallow/fallowlaw05.DeriveAddr", spec := "deriveAddr", unfollowed := true, recurses := true, apart := false, narrowed := true }
def DeriveAddrUptoSaid : Prop := deriveAddrUptoRow.holds Try.pinned (OpenSpec.upto deriveAddrSpec)

/-- 'fallowlaw05.DeriveSeal', WHERE WHAT IT READS IS OF BULK AT MOST 1048576: true; the input reads as it did. -/
def deriveSealUptoRow : OpenClaim := { program := "ytljchnfofjmleaa", sum := "9dd94a114348a767a2780c75c122b19dfae00bd4a2b8d0fa2db13c1a0032e19f", func := "fallow/fallowlaw05.DeriveSeal", spec := "deriveSeal", unfollowed := true, recurses := true, apart := false, narrowed := true }
def DeriveSealUptoSaid : Prop := deriveSealUptoRow.holds Try.pinned (OpenSpec.upto deriveSealSpec)

/-- 'fallowlaw05.DeriveOpen', WHERE WHAT IT READS IS OF BULK AT MOST 1048576: true; the input reads as it did. -/
def deriveOpenUptoRow : OpenClaim := { program := "ytljchnfofjmleaa", sum := "9dd94a114348a767a2780c75c122b19dfae00bd4a2b8d0fa2db13c1a0032e19f", func := "fallow/fallowlaw05.DeriveOpen", spec := "deriveOpen", unfollowed := true, recurses := true, apart := false, narrowed := true }
def DeriveOpenUptoSaid : Prop := deriveOpenUptoRow.holds Try.pinned (OpenSpec.upto deriveOpenSpec)

/-- 'fallowlaw05.DeriveBuild', WHERE WHAT IT READS IS OF BULK AT MOST 1048576: true; the input reads as it did. -/
def deriveBuildUptoRow : OpenClaim := { program := "ytljchnfofjmleaa", sum := "9dd94a114348a767a2780c75c122b19dfae00bd4a2b8d0fa2db13c1a0032e19f", func := "fallow/fallowlaw05.DeriveBuild", spec := "deriveBuild", unfollowed := true, recurses := true, apart := false, narrowed := true }
def DeriveBuildUptoSaid : Prop := deriveBuildUptoRow.holds Try.pinned (OpenSpec.upto deriveBuildSpec)

/-- 'fallowlaw05.DeriveAgain', WHERE WHAT IT READS IS OF BULK AT MOST 1048576: true; the input reads as it did. -/
def deriveAgainUptoRow : OpenClaim := { program := "ytljchnfofjmleaa", sum := "9dd94a114348a767a2780c75c122b19dfae00bd4a2b8d0fa2db13c1a0032e19f", func := "fallow/fallowlaw05.DeriveAgain", spec := "deriveAgain", unfollowed := true, recurses := true, apart := false, narrowed := true }
def DeriveAgainUptoSaid : Prop := deriveAgainUptoRow.holds Try.pinned (OpenSpec.upto deriveAgainSpec)

/-- 'fallowlaw05.DeriveBack', WHERE WHAT IT READS IS OF BULK AT MOST 1048576: true; the input reads as it did. -/
def deriveBackUptoRow : OpenClaim := { program := "ytljchnfofjmleaa", sum := "9dd94a114348a767a2780c75c122b19dfae00bd4a2b8d0fa2db13c1a0032e19f", func := "fallow/fallowlaw05.DeriveBack", spec := "deriveBack", unfollowed := true, recurses := true, apart := false, narrowed := true }
def DeriveBackUptoSaid : Prop := deriveBackUptoRow.holds Try.pinned (OpenSpec.upto deriveBackSpec)

/-- 'fallowlaw05.DeriveLess', WHERE WHAT IT READS IS OF BULK AT MOST 1048576: true; the input reads as it did. -/
def deriveLessUptoRow : OpenClaim := { program := "ytljchnfofjmleaa", sum := "9dd94a114348a767a2780c75c122b19dfae00bd4a2b8d0fa2db13c1a0032e19f", func := "fallow/fallowlaw05.DeriveLess", spec := "deriveLess", unfollowed := true, recurses := true, apart := false, narrowed := true }
def DeriveLessUptoSaid : Prop := deriveLessUptoRow.holds Try.pinned (OpenSpec.upto deriveLessSpec)

/-- 'fallowlaw05.DeriveSealed', WHERE WHAT IT READS IS OF BULK AT MOST 1048576: true; the input reads as it did. -/
def deriveSealedUptoRow : OpenClaim := { program := "ytljchnfofjmleaa", sum := "9dd94a114348a767a2780c75c122b19dfae00bd4a2b8d0fa2db13c1a0032e19f", func := "fallow/fallowlaw05.DeriveSealed", spec := "deriveSealed", unfollowed := true, recurses := true, apart := false, narrowed := true }
def DeriveSealedUptoSaid : Prop := deriveSealedUptoRow.holds Try.pinned (OpenSpec.upto deriveSealedSpec)

/-- 'fallowlaw05.DeriveKnown', WHERE WHAT IT READS IS OF BULK AT MOST 1048576: true; the input reads as it did. -/
def deriveKnownUptoRow : OpenClaim := { program := "ytljchnfofjmleaa", sum := "9dd94a114348a767a2780c75c122b19dfae00bd4a2b8d0fa2db13c1a0032e19f", func := "fallow/fallowlaw05.DeriveKnown", spec := "deriveKnown", unfollowed := true, recurses := true, apart := false, narrowed := true }
def DeriveKnownUptoSaid : Prop := deriveKnownUptoRow.holds Try.pinned (OpenSpec.upto deriveKnownSpec)

end Rows
end Go.Proofs.Ytljchnfofjmleaa

/-
  No cell of these rows narrows 'for every input' (looked for: loops, veiled, ifaces, maps, wideKeys, modest, calm, conditions, laid).
  DERIVED. THE GIVEN ROWS OF THIS SEAT. 9 by the template 'for every input the law returns true; each argument reads behind the call as it read before'; 0 by the template 'total and deterministic' (their statements: YtnnagaioiodniaaTotals.lean).
  GIVEN WITH THE SEED: the statements are not yours to turn. If you find one false, say at which input.
  Laid BY PROGRAM, IN A SANDBOX (cutbox-rows.mjs): the forced cells as the released guide's own fill.sh prints them over the translation 759d13c4d8e34a95… (all of the seat's roots in one cut). By AI agents, Wed Nov 11 2026. No macro, syntax, notation, axiom, sorry.
-/
import Derived.Test.YtnnagaioiodniaaChecked
import GoSem.Claim
import GoSem.ClaimJoined
import GoSem.ClaimMapViews
import Derived.JoinedTies
import Derived.KernelRfl
namespace Go.Proofs.Ytnnagaioiodniaa
/- THE CELL 'sum', in the pinned program and in every row, IS THE sha256 OF THE DUMP (.gsa) THAT YtnnagaioiodniaaProg.lean LOADS. Nothing in Lean hashes anything: it is a label: what it is worth is what the hold of that sum in a sandbox is worth. -/
noncomputable def Try.pinned : Pinned := { name := "ytnnagaioiodniaa", sum := "759d13c4d8e34a95e898d427b2be098c0b59b730a2ab2e9da00c13753c0d9188", checked := Try.checked }
namespace Rows
def none {H : Type} : Left H := { results := [], args := [] }

/-- 'fallowlaw04.CapsRanges': WHATEVER THE INPUT: true; the input reads as it did. -/
def capsRangesSpec : ChangeSpec := { name := "capsRanges", fn := fun _ => fun
  | [d1, d2] => { results := [.lit (.bool true)], args := [d1, d2] }
  | _ => none }
def capsRangesRow : OpenClaim := { program := "ytnnagaioiodniaa", sum := "759d13c4d8e34a95e898d427b2be098c0b59b730a2ab2e9da00c13753c0d9188", func := "fallow/fallowlaw04.CapsRanges", spec := "capsRanges", unfollowed := true, recurses := true, apart := false }
def CapsRangesSaid : Prop := capsRangesRow.holds Try.pinned (OpenSpec.ofChange capsRangesSpec)

/-- ITS FALSE NEIGHBOUR: 'it returns false'. Refute it at one input. -/
def capsRangesWrong : ChangeSpec := { name := "capsRanges", fn := fun _ => fun
  | [d1, d2] => { results := [.lit (.bool false)], args := [d1, d2] }
  | _ => none }
def CapsRangesWrongFalsely : Prop := capsRangesRow.holds Try.pinned (OpenSpec.ofChange capsRangesWrong)

/-- 'fallowlaw04.CapsMakes': WHATEVER THE INPUT: true; the input reads as it did. -/
def capsMakesSpec : ChangeSpec := { name := "capsMakes", fn := fun _ => fun
  | [d1, d2] => { results := [.lit (.bool true)], args := [d1, d2] }
  | _ => none }
def capsMakesRow : OpenClaim := { program := "ytnnagaioiodniaa", sum := "759d13c4d8e34a95e898d427b2be098c0b59b730a2ab2e9da00c13753c0d9188", func := "fallow/fallowlaw04.CapsMakes", spec := "capsMakes", unfollowed := true, recurses := true, apart := false }
def CapsMakesSaid : Prop := capsMakesRow.holds Try.pinned (OpenSpec.ofChange capsMakesSpec)

/-- ITS FALSE NEIGHBOUR: 'it returns false'. Refute it at one input. -/
def capsMakesWrong : ChangeSpec := { name := "capsMakes", fn := fun _ => fun
  | [d1, d2] => { results := [.lit (.bool false)], args := [d1, d2] }
  | _ => none }
def CapsMakesWrongFalsely : Prop := capsMakesRow.holds Try.pinned (OpenSpec.ofChange capsMakesWrong)

/-- 'fallowlaw04.CapsWithin': WHATEVER THE INPUT: true; the input reads as it did. -/
def capsWithinSpec : ChangeSpec := { name := "capsWithin", fn := fun _ => fun
  | [d1, d2] => { results := [.lit (.bool true)], args := [d1, d2] }
  | _ => none }
def capsWithinRow : OpenClaim := { program := "ytnnagaioiodniaa", sum := "759d13c4d8e34a95e898d427b2be098c0b59b730a2ab2e9da00c13753c0d9188", func := "fallow/fallowlaw04.CapsWithin", spec := "capsWithin", unfollowed := true, recurses := true, apart := false }
def CapsWithinSaid : Prop := capsWithinRow.holds Try.pinned (OpenSpec.ofChange capsWithinSpec)

/-- ITS FALSE NEIGHBOUR: 'it returns false'. Refute it at one input. -/
def capsWithinWrong : ChangeSpec := { name := "capsWithin", fn := fun _ => fun
  | [d1, d2] => { results := [.lit (.bool false)], args := [d1, d2] }
  | _ => none }
def CapsWithinWrongFalsely : Prop := capsWithinRow.holds Try.pinned (OpenSpec.ofChange capsWithinWrong)

/-- 'fallowlaw04.CapsChain': WHATEVER THE INPUT: true; the input reads as it did. -/
def capsChainSpec : ChangeSpec := { name := "capsChain", fn := fun _ => fun
  | [d1, d2] => { results := [.lit (.bool true)], args := [d1, d2] }
  | _ => none }
def capsChainRow : OpenClaim := { program := "ytnnagaioiodniaa", sum := "759d13c4d8e34a95e898d427b2be098c0b59b730a2ab2e9da00c13753c0d9188", func := "fallow/fallowlaw04.CapsChain", spec := "capsChain", unfollowed := true, recurses := true, apart := false }
def CapsChainSaid : Prop := capsChainRow.holds Try.pinned (OpenSpec.ofChange capsChainSpec)

/-- ITS FALSE NEIGHBOUR: 'it returns false'. Refute it at one input. -/
def capsChainWrong : ChangeSpec := { name := "capsChain", fn := fun _ => fun
  | [d1, d2] => { results := [.lit (.bool false)], args := [d1, d2] }
  | _ => none }
def CapsChainWrongFalsely : Prop := capsChainRow.holds Try.pinned (OpenSpec.ofChange capsChainWrong)

/-- 'fallowlaw04.CapsMade': WHATEVER THE INPUT: true; the input reads as it did. -/
def capsMadeSpec : ChangeSpec := { name := "capsMade", fn := fun _ => fun
  | [d1, d2, d3] => { results := [.lit (.bool true)], args := [d1, d2, d3] }
  | _ => none }
def capsMadeRow : OpenClaim := { program := "ytnnagaioiodniaa", sum := "759d13c4d8e34a95e898d427b2be098c0b59b730a2ab2e9da00c13753c0d9188", func := "fallow/fallowlaw04.CapsMade", spec := "capsMade", unfollowed := true, recurses := true, apart := false }
def CapsMadeSaid : Prop := capsMadeRow.holds Try.pinned (OpenSpec.ofChange capsMadeSpec)

/-- ITS FALSE NEIGHBOUR: 'it returns false'. Refute it at one input. -/
def capsMadeWrong : ChangeSpec := { name := "capsMade", fn := fun _ => fun
  | [d1, d2, d3] => { results := [.lit (.bool false)], args := [d1, d2, d3] }
  | _ => none }
def CapsMadeWrongFalsely : Prop := capsMadeRow.holds Try.pinned (OpenSpec.ofChange capsMadeWrong)

/-- 'fallowlaw04.CapsBytes': WHATEVER THE INPUT: true; the input reads as it did. -/
def capsBytesSpec : ChangeSpec := { name := "capsBytes", fn := fun _ => fun
  | [d1, d2, d3] => { results := [.lit (.bool true)], args := [d1, d2, d3] }
  | _ => none }
def capsBytesRow : OpenClaim := { program := "ytnnagaioiodniaa", sum := "759d13c4d8e34a95e898d427b2be098c0b59b730a2ab2e9da00c13753c0d9188", func := "fallow/fallowlaw04.CapsBytes", spec := "capsBytes", unfollowed := true, recurses := true, apart := false }
def CapsBytesSaid : Prop := capsBytesRow.holds Try.pinned (OpenSpec.ofChange capsBytesSpec)

/-- ITS FALSE NEIGHBOUR: 'it returns false'. Refute it at one input. -/
def capsBytesWrong : ChangeSpec := { name := "capsBytes", fn := fun _ => fun
  | [d1, d2, d3] => { results := [.lit (.bool false)], args := [d1, d2, d3] }
  | _ => none }
def CapsBytesWrongFalsely : Prop := capsBytesRow.holds Try.pinned (OpenSpec.ofChange capsBytesWrong)

/-- 'fallowlaw04.CapsBack': WHATEVER THE INPUT: true; the input reads as it did. -/
def capsBackSpec : ChangeSpec := { name := "capsBack", fn := fun _ => fun
  | [d1, d2, d3] => { results := [.lit (.bool true)], args := [d1, d2, d3] }
  | _ => none }
def capsBackRow : OpenClaim := { program := "ytnnagaioiodniaa", sum := "759d13c4d8e34a95e898d427b2be098c0b59b730a2ab2e9da00c13753c0d9188", func := "fallow/fallowlaw04.CapsBack", spec := "capsBack", unfollowed := true, recurses := true, apart := false }
def CapsBackSaid : Prop := capsBackRow.holds Try.pinned (OpenSpec.ofChange capsBackSpec)

/-- ITS FALSE NEIGHBOUR: 'it returns false'. Refute it at one input. -/
def capsBackWrong : ChangeSpec := { name := "capsBack", fn := fun _ => fun
  | [d1, d2, d3] => { results := [.lit (.bool false)], args := [d1, d2, d3] }
  | _ => none }
def CapsBackWrongFalsely : Prop := capsBackRow.holds Try.pinned (OpenSpec.ofChange capsBackWrong)

/-- 'fallowlaw04.CapsNumbers': WHATEVER THE INPUT: true; the input reads as it did. -/
def capsNumbersSpec : ChangeSpec := { name := "capsNumbers", fn := fun _ => fun
  | [d1, d2] => { results := [.lit (.bool true)], args := [d1, d2] }
  | _ => none }
def capsNumbersRow : OpenClaim := { program := "ytnnagaioiodniaa", sum := "759d13c4d8e34a95e898d427b2be098c0b59b730a2ab2e9da00c13753c0d9188", func := "fallow/fallowlaw04.CapsNumbers", spec := "capsNumbers", unfollowed := true, recurses := true, apart := false }
def CapsNumbersSaid : Prop := capsNumbersRow.holds Try.pinned (OpenSpec.ofChange capsNumbersSpec)

/-- ITS FALSE NEIGHBOUR: 'it returns false'. Refute it at one input. -/
def capsNumbersWrong : ChangeSpec := { name := "capsNumbers", fn := fun _ => fun
  | [d1, d2] => { results := [.lit (.bool false)], args := [d1, d2] }
  | _ => none }
def CapsNumbersWrongFalsely : Prop := capsNumbersRow.holds Try.pinned (OpenSpec.ofChange capsNumbersWrong)

/-- 'fallowlaw04.CapsKnown': WHATEVER THE INPUT: true; the input reads as it did. -/
def capsKnownSpec : ChangeSpec := { name := "capsKnown", fn := fun _ => fun
  | [] => { results := [.lit (.bool true)], args := [] }
  | _ => none }
def capsKnownRow : OpenClaim := { program := "ytnnagaioiodniaa", sum := "759d13c4d8e34a95e898d427b2be098c0b59b730a2ab2e9da00c13753c0d9188", func := "fallow/fallowlaw04.CapsKnown", spec := "capsKnown", unfollowed := true, recurses := true, apart := false }
def CapsKnownSaid : Prop := capsKnownRow.holds Try.pinned (OpenSpec.ofChange capsKnownSpec)

/-- ITS FALSE NEIGHBOUR: 'it returns false'. Refute it at one input. -/
def capsKnownWrong : ChangeSpec := { name := "capsKnown", fn := fun _ => fun
  | [] => { results := [.lit (.bool false)], args := [] }
  | _ => none }
def CapsKnownWrongFalsely : Prop := capsKnownRow.holds Try.pinned (OpenSpec.ofChange capsKnownWrong)

/- THE SECOND FORM. 'bulk': how many values and letters a reading holds, each counted each time it is reached (what is shared counts as often as it is met; a slice's spare places count too). A statement '..UptoSaid' is the law's where the arguments, and the package variables that the reading takes, are together of bulk at most 1048576: NARROWER than '..Said'. Prove '..Said' where nothing that the law and all that it calls make is longer than what came in: it says more and counts as full. Else prove '..UptoSaid'. A law counts once. -/
mutual
def uptoBulk {H : Type} : DataW H → Nat
  | .lit (.string bytes) => bytes.length + 1
  | .lit _ => 1
  | .nil => 1
  | .ptr d => uptoBulk d + 1
  | .slice elems spare => uptoBulkAll elems + uptoBulkAll spare + 1
  | .agg parts => uptoBulkAll parts + 1
  | .iface _ d => uptoBulk d + 1
  | .map entries => uptoBulkEntries entries + 1
  | .held _ => 1
def uptoBulkAll {H : Type} : List (DataW H) → Nat
  | [] => 0
  | d :: r => uptoBulk d + uptoBulkAll r
def uptoBulkEntries {H : Type} : List (Lit × DataW H) → Nat
  | [] => 0
  | x :: r => uptoBulkEntry x + uptoBulkEntries r
def uptoBulkEntry {H : Type} : Lit × DataW H → Nat
  | (.string bytes, d) => bytes.length + uptoBulk d + 1
  | (_, d) => uptoBulk d + 1
 end
def uptoSmall : (H : Type) → List (DataW H) → Bool := fun _ ds => decide (uptoBulkAll ds ≤ 1048576)
def OpenSpec.upto (s : _root_.Go.ChangeSpec) : _root_.Go.OpenSpec := { _root_.Go.OpenSpec.ofChange s with cond := some uptoSmall }

/-- 'fallowlaw04.CapsRanges', WHERE WHAT IT READS IS OF BULK AT MOST 1048576: true; the input reads as it did. -/
def capsRangesUptoRow : OpenClaim := { program := "ytnnagaioiodniaa", sum := "759d13c4d8e34a95e898d427b2be098c0b59b730a2ab2e9da00c13753c0d9188", func := "fallow/fallowlaw04.CapsRanges", spec := "capsRanges", unfollowed := true, recurses := true, apart := false, narrowed := true }
def CapsRangesUptoSaid : Prop := capsRangesUptoRow.holds Try.pinned (OpenSpec.upto capsRangesSpec)

/-- 'fallowlaw04.CapsMakes', WHERE WHAT IT READS IS OF BULK AT MOST 1048576: true; the input reads as it did. -/
def capsMakesUptoRow : OpenClaim := { program := "ytnnagaioiodniaa", sum := "759d13c4d8e34a95e898d427b2be098c0b59b730a2ab2e9da00c13753c0d9188", func := "fallow/fallowlaw04.CapsMakes", spec := "capsMakes", unfollowed := true, recurses := true, apart := false, narrowed := true }
def CapsMakesUptoSaid : Prop := capsMakesUptoRow.holds Try.pinned (OpenSpec.upto capsMakesSpec)

/-- 'fallowlaw04.CapsWithin', WHERE WHAT IT READS IS OF BULK AT MOST 1048576: true; the input reads as it did. -/
def capsWithinUptoRow : OpenClaim := { program := "ytnnagaioiodniaa", sum := "759d13c4d8e34a95e898d427b2be098c0b59b730a2ab2e9da00c13753c0d9188", func := "fallow/fallowlaw04.CapsWithin", spec := "capsWithin", unfollowed := true, recurses := true, apart := false, narrowed := true }
def CapsWithinUptoSaid : Prop := capsWithinUptoRow.holds Try.pinned (OpenSpec.upto capsWithinSpec)

/-- 'fallowlaw04.CapsChain', WHERE WHAT IT READS IS OF BULK AT MOST 1048576: true; the input reads as it did. -/
def capsChainUptoRow : OpenClaim := { program := "ytnnagaioiodniaa", sum := "759d13c4d8e34a95e898d427b2be098c0b59b730a2ab2e9da00c13753c0d9188", func := "fallow/fallowlaw04.CapsChain", spec := "capsChain", unfollowed := true, recurses := true, apart := false, narrowed := true }
def CapsChainUptoSaid : Prop := capsChainUptoRow.holds Try.pinned (OpenSpec.upto capsChainSpec)

/-- 'fallowlaw04.CapsMade', WHERE WHAT IT READS IS OF BULK AT MOST 1048576: true; the input reads as it did. -/
def capsMadeUptoRow : OpenClaim := { program := "ytnnagaioiodniaa", sum := "759d13c4d8e34a95e898d427b2be098c0b59b730a2ab2e9da00c13753c0d9188", func := "fallow/fallowlaw04.CapsMade", spec := "capsMade", unfollowed := true, recurses := true, apart := false, narrowed := true }
def CapsMadeUptoSaid : Prop := capsMadeUptoRow.holds Try.pinned (OpenSpec.upto capsMadeSpec)

/-- 'fallowlaw04.CapsBytes', WHERE WHAT IT READS IS OF BULK AT MOST 1048576: true; the input reads as it did. -/
def capsBytesUptoRow : OpenClaim := { program := "ytnnagaioiodniaa", sum := "759d13c4d8e34a95e898d427b2be098c0b59b730a2ab2e9da00c13753c0d9188", func := "fallow/fallowlaw04.CapsBytes", spec := "capsBytes", unfollowed := true, recurses := true, apart := false, narrowed := true }
def CapsBytesUptoSaid : Prop := capsBytesUptoRow.holds Try.pinned (OpenSpec.upto capsBytesSpec)

/-- 'fallowlaw04.CapsBack', WHERE WHAT IT READS IS OF BULK AT MOST 1048576: true; the input reads as it did. -/
def capsBackUptoRow : OpenClaim := { program := "ytnnagaioiodniaa", sum := "759d13c4d8e34a95e898d427b2be098c0b59b730a2ab2e9da00c13753c0d9188", func := "fallow/fallowlaw04.CapsBack", spec := "capsBack", unfollowed := true, recurses := true, apart := false, narrowed := true }
def CapsBackUptoSaid : Prop := capsBackUptoRow.holds Try.pinned (OpenSpec.upto capsBackSpec)

/-- 'fallowlaw04.CapsNumbers', WHERE WHAT IT READS IS OF BULK AT MOST 1048576: true; the input reads as it did. -/
def capsNumbersUptoRow : OpenClaim := { program := "ytnnagaioiodniaa", sum := "759d13c4d8e34a95e898d427b2be098c0b59b730a2ab2e9da00c13753c0d9188", func := "fallow/fallowlaw04.CapsNumbers", spec := "capsNumbers", unfollowed := true, recurses := true, apart := false, narrowed := true }
def CapsNumbersUptoSaid : Prop := capsNumbersUptoRow.holds Try.pinned (OpenSpec.upto capsNumbersSpec)

/-- 'fallowlaw04.CapsKnown', WHERE WHAT IT READS IS OF BULK AT MOST 1048576: true; the input reads as it did. -/
def capsKnownUptoRow : OpenClaim := { program := "ytnnagaioiodniaa", sum := "759d13c4d8e34a95e898d427b2be098c0b59b730a2ab2e9da00c13753c0d9188", func := "fallow/fallowlaw04.CapsKnown", spec := "capsKnown", unfollowed := true, recurses := true, apart := false, narrowed := true }
def CapsKnownUptoSaid : Prop := capsKnownUptoRow.holds Try.pinned (OpenSpec.upto capsKnownSpec)

end Rows
end Go.Proofs.Ytnnagaioiodniaa

/-
  NARROWER THAN 'FOR EVERY INPUT', by the rows' own cells (each row's printed sentence says how): CoreMoves: laid · CoreNoMore: laid · CoreData: laid · CoreDoes: laid · CoreKnown: laid · CoreRuns: laid.
  DERIVED. THE GIVEN ROWS OF THIS SEAT. 6 by the template 'for every input the law returns true; each argument reads behind the call as it read before'; 0 by the template 'total and deterministic' (their statements: YtagacmljbgkmoaaGreatDoorTotals.lean).
  GIVEN WITH THE SEED: the statements are not yours to turn. If you find one false, say at which input.
  Laid BY PROGRAM, IN A SANDBOX (cutbox-rows.mjs): the forced cells as the released guide's own fill.sh prints them over the translation eb5378833b721b97… (all of the seat's roots in one cut). By AI agents, Wed Nov 11 2026. No macro, syntax, notation, axiom, sorry.
-/
import Derived.Test.YtagacmljbgkmoaaGreatDoorChecked
import GoSem.Claim
import GoSem.ClaimJoined
import GoSem.ClaimMapViews
import Derived.JoinedTies
import Derived.KernelRfl
namespace Go.Proofs.YtagacmljbgkmoaaGreatDoor
/- THE CELL 'sum', in the pinned program and in every row, IS THE sha256 OF THE DUMP (.gsa) THAT YtagacmljbgkmoaaGreatDoorProg.lean LOADS. Nothing in Lean hashes anything: it is a label: what it is worth is what the hold of that sum in a sandbox is worth. -/
noncomputable def Tryz.pinned : Pinned := { name := "ytagacmljbgkmoaagreatdoor", sum := "eb5378833b721b97bc3ee250d3d0b76ea75c758afd81caa58fc0bcd07cbbd704", checked := Tryz.checked }
namespace Rows
def none {H : Type} : Left H := { results := [], args := [] }

/- WHAT THE LISTED PACKAGE-LEVEL VARIABLES READ AS WHEN THE CALL BEGINS. Each datum BY PROGRAM (the guide's laid-datum.mjs) off the statement by which the dump's own 'gosem.cut.vars' lays the variable. In a bare row this is a premise. The card (YtagacmljbgkmoaaGreatDoorCards.lean) ties it to the program's text. -/
def laid_fallow_isa_rows {H : Type} : DataW H := .agg [.agg [.lit (.string []), .lit (.string [])], .agg [.lit (.string [108, 105]), .lit (.string [97, 105])], .agg [.lit (.string [108, 117, 105]), .lit (.string [97, 106])], .agg [.lit (.string [97, 100, 100]), .lit (.string [97, 98, 99])], .agg [.lit (.string [115, 117, 98]), .lit (.string [97, 98, 99])], .agg [.lit (.string [109, 117, 108]), .lit (.string [97, 98, 99])], .agg [.lit (.string [100, 105, 118]), .lit (.string [97, 98, 99])], .agg [.lit (.string [114, 101, 109]), .lit (.string [97, 98, 99])], .agg [.lit (.string [97, 110, 100]), .lit (.string [97, 98, 99])], .agg [.lit (.string [111, 114]), .lit (.string [97, 98, 99])], .agg [.lit (.string [120, 111, 114]), .lit (.string [97, 98, 99])], .agg [.lit (.string [115, 104, 108]), .lit (.string [97, 98, 99])], .agg [.lit (.string [115, 104, 114]), .lit (.string [97, 98, 99])], .agg [.lit (.string [108, 116]), .lit (.string [97, 98, 99])], .agg [.lit (.string [108, 116, 117]), .lit (.string [97, 98, 99])], .agg [.lit (.string [101, 113]), .lit (.string [97, 98, 99])], .agg [.lit (.string [97, 100, 100, 105]), .lit (.string [97, 98, 105])], .agg [.lit (.string [108, 98]), .lit (.string [97, 98, 105])], .agg [.lit (.string [108, 104]), .lit (.string [97, 98, 105])], .agg [.lit (.string [108, 119]), .lit (.string [97, 98, 105])], .agg [.lit (.string [115, 98]), .lit (.string [97, 98, 105])], .agg [.lit (.string [115, 104]), .lit (.string [97, 98, 105])], .agg [.lit (.string [115, 119]), .lit (.string [97, 98, 105])], .agg [.lit (.string [108, 99]), .lit (.string [97, 98, 105])], .agg [.lit (.string [115, 99]), .lit (.string [97, 98, 105])], .agg [.lit (.string [98, 101, 113]), .lit (.string [97, 98, 105])], .agg [.lit (.string [98, 110, 101]), .lit (.string [97, 98, 105])], .agg [.lit (.string [98, 108, 116]), .lit (.string [97, 98, 105])], .agg [.lit (.string [98, 103, 101]), .lit (.string [97, 98, 105])], .agg [.lit (.string [106, 97, 108]), .lit (.string [97, 106])], .agg [.lit (.string [106, 97, 108, 114]), .lit (.string [97, 98])], .agg [.lit (.string [109, 111, 118, 101]), .lit (.string [97, 98])], .agg [.lit (.string [105, 110, 99]), .lit (.string [97, 98, 99])], .agg [.lit (.string [105, 110, 99, 105]), .lit (.string [97, 98, 105])], .agg [.lit (.string [97, 100, 100, 114]), .lit (.string [97, 98, 99])], .agg [.lit (.string [115, 101, 116]), .lit (.string [97, 98, 99])], .agg [.lit (.string [101, 120, 97, 99, 116]), .lit (.string [97, 98, 99])], .agg [.lit (.string [97, 110, 100, 115]), .lit (.string [97, 98, 99])], .agg [.lit (.string [115, 101, 97, 108]), .lit (.string [97, 98, 99])], .agg [.lit (.string [111, 112, 101, 110]), .lit (.string [97, 98, 99])], .agg [.lit (.string [98, 117, 105, 108, 100]), .lit (.string [97, 98, 99])], .agg [.lit (.string [99, 108, 101, 97, 114]), .lit (.string [97, 98])], .agg [.lit (.string [103, 97, 100, 100, 114]), .lit (.string [97, 98])], .agg [.lit (.string [103, 98, 97, 115, 101]), .lit (.string [97, 98])], .agg [.lit (.string [103, 108, 101, 110]), .lit (.string [97, 98])], .agg [.lit (.string [103, 112, 101, 114, 109]), .lit (.string [97, 98])], .agg [.lit (.string [103, 116, 121, 112, 101]), .lit (.string [97, 98])], .agg [.lit (.string [103, 116, 97, 103]), .lit (.string [97, 98])], .agg [.lit (.string [105, 115, 105, 110, 116]), .lit (.string [97, 98])], .agg [.lit (.string [112, 99]), .lit (.string [97, 106])], .agg [.lit (.string [99, 97, 108, 108]), .lit (.string [97, 98])], .agg [.lit (.string [114, 101, 116]), .lit (.string [])], .agg [.lit (.string [101, 99, 97, 108, 108]), .lit (.string [105])], .agg [.lit (.string [116, 114, 97, 112]), .lit (.string [])]]

/-- 'fallowlaw10.CoreMoves': WHATEVER THE INPUT: true; the input reads as it did. -/
def coreMovesSpec : ChangeSpec := { name := "coreMoves", fn := fun _ => fun
  | [d1, d2, d3] => { results := [.lit (.bool true)], args := [d1, d2, d3] }
  | _ => none }
def coreMovesRow : OpenClaim := { program := "ytagacmljbgkmoaagreatdoor", sum := "eb5378833b721b97bc3ee250d3d0b76ea75c758afd81caa58fc0bcd07cbbd704", func := "fallow/fallowlaw10.CoreMoves", spec := "coreMoves", unfollowed := true, recurses := true, named := ["fallow/isa.rows"], apart := false, laid := [("fallow/isa.rows", laid_fallow_isa_rows)] }
def CoreMovesSaid : Prop := coreMovesRow.holds Tryz.pinned (OpenSpec.ofChange coreMovesSpec)

/-- ITS FALSE NEIGHBOUR: 'it returns false'. Refute it at one input. -/
def coreMovesWrong : ChangeSpec := { name := "coreMoves", fn := fun _ => fun
  | [d1, d2, d3] => { results := [.lit (.bool false)], args := [d1, d2, d3] }
  | _ => none }
def CoreMovesWrongFalsely : Prop := coreMovesRow.holds Tryz.pinned (OpenSpec.ofChange coreMovesWrong)

/-- 'fallowlaw10.CoreNoMore': WHATEVER THE INPUT: true; the input reads as it did. -/
def coreNoMoreSpec : ChangeSpec := { name := "coreNoMore", fn := fun _ => fun
  | [d1, d2, d3] => { results := [.lit (.bool true)], args := [d1, d2, d3] }
  | _ => none }
def coreNoMoreRow : OpenClaim := { program := "ytagacmljbgkmoaagreatdoor", sum := "eb5378833b721b97bc3ee250d3d0b76ea75c758afd81caa58fc0bcd07cbbd704", func := "fallow/fallowlaw10.CoreNoMore", spec := "coreNoMore", unfollowed := true, recurses := true, named := ["fallow/isa.rows"], apart := false, laid := [("fallow/isa.rows", laid_fallow_isa_rows)] }
def CoreNoMoreSaid : Prop := coreNoMoreRow.holds Tryz.pinned (OpenSpec.ofChange coreNoMoreSpec)

/-- ITS FALSE NEIGHBOUR: 'it returns false'. Refute it at one input. -/
def coreNoMoreWrong : ChangeSpec := { name := "coreNoMore", fn := fun _ => fun
  | [d1, d2, d3] => { results := [.lit (.bool false)], args := [d1, d2, d3] }
  | _ => none }
def CoreNoMoreWrongFalsely : Prop := coreNoMoreRow.holds Tryz.pinned (OpenSpec.ofChange coreNoMoreWrong)

/-- 'fallowlaw10.CoreData': WHATEVER THE INPUT: true; the input reads as it did. -/
def coreDataSpec : ChangeSpec := { name := "coreData", fn := fun _ => fun
  | [d1, d2, d3] => { results := [.lit (.bool true)], args := [d1, d2, d3] }
  | _ => none }
def coreDataRow : OpenClaim := { program := "ytagacmljbgkmoaagreatdoor", sum := "eb5378833b721b97bc3ee250d3d0b76ea75c758afd81caa58fc0bcd07cbbd704", func := "fallow/fallowlaw10.CoreData", spec := "coreData", unfollowed := true, recurses := true, named := ["fallow/isa.rows"], apart := false, laid := [("fallow/isa.rows", laid_fallow_isa_rows)] }
def CoreDataSaid : Prop := coreDataRow.holds Tryz.pinned (OpenSpec.ofChange coreDataSpec)

/-- ITS FALSE NEIGHBOUR: 'it returns false'. Refute it at one input. -/
def coreDataWrong : ChangeSpec := { name := "coreData", fn := fun _ => fun
  | [d1, d2, d3] => { results := [.lit (.bool false)], args := [d1, d2, d3] }
  | _ => none }
def CoreDataWrongFalsely : Prop := coreDataRow.holds Tryz.pinned (OpenSpec.ofChange coreDataWrong)

/-- 'fallowlaw10.CoreDoes': WHATEVER THE INPUT: true; the input reads as it did. -/
def coreDoesSpec : ChangeSpec := { name := "coreDoes", fn := fun _ => fun
  | [d1, d2, d3] => { results := [.lit (.bool true)], args := [d1, d2, d3] }
  | _ => none }
def coreDoesRow : OpenClaim := { program := "ytagacmljbgkmoaagreatdoor", sum := "eb5378833b721b97bc3ee250d3d0b76ea75c758afd81caa58fc0bcd07cbbd704", func := "fallow/fallowlaw10.CoreDoes", spec := "coreDoes", unfollowed := true, recurses := true, named := ["fallow/isa.rows"], apart := false, laid := [("fallow/isa.rows", laid_fallow_isa_rows)] }
def CoreDoesSaid : Prop := coreDoesRow.holds Tryz.pinned (OpenSpec.ofChange coreDoesSpec)

/-- ITS FALSE NEIGHBOUR: 'it returns false'. Refute it at one input. -/
def coreDoesWrong : ChangeSpec := { name := "coreDoes", fn := fun _ => fun
  | [d1, d2, d3] => { results := [.lit (.bool false)], args := [d1, d2, d3] }
  | _ => none }
def CoreDoesWrongFalsely : Prop := coreDoesRow.holds Tryz.pinned (OpenSpec.ofChange coreDoesWrong)

/-- 'fallowlaw10.CoreKnown': WHATEVER THE INPUT: true; the input reads as it did. -/
def coreKnownSpec : ChangeSpec := { name := "coreKnown", fn := fun _ => fun
  | [] => { results := [.lit (.bool true)], args := [] }
  | _ => none }
def coreKnownRow : OpenClaim := { program := "ytagacmljbgkmoaagreatdoor", sum := "eb5378833b721b97bc3ee250d3d0b76ea75c758afd81caa58fc0bcd07cbbd704", func := "fallow/fallowlaw10.CoreKnown", spec := "coreKnown", unfollowed := true, recurses := true, named := ["fallow/isa.rows"], apart := false, laid := [("fallow/isa.rows", laid_fallow_isa_rows)] }
def CoreKnownSaid : Prop := coreKnownRow.holds Tryz.pinned (OpenSpec.ofChange coreKnownSpec)

/-- ITS FALSE NEIGHBOUR: 'it returns false'. Refute it at one input. -/
def coreKnownWrong : ChangeSpec := { name := "coreKnown", fn := fun _ => fun
  | [] => { results := [.lit (.bool false)], args := [] }
  | _ => none }
def CoreKnownWrongFalsely : Prop := coreKnownRow.holds Tryz.pinned (OpenSpec.ofChange coreKnownWrong)

/-- 'fallowlaw10.CoreRuns': WHATEVER THE INPUT: true; the input reads as it did. -/
def coreRunsSpec : ChangeSpec := { name := "coreRuns", fn := fun _ => fun
  | [d1, d2] => { results := [.lit (.bool true)], args := [d1, d2] }
  | _ => none }
def coreRunsRow : OpenClaim := { program := "ytagacmljbgkmoaagreatdoor", sum := "eb5378833b721b97bc3ee250d3d0b76ea75c758afd81caa58fc0bcd07cbbd704", func := "fallow/fallowlaw10.CoreRuns", spec := "coreRuns", unfollowed := true, recurses := true, named := ["fallow/isa.rows"], apart := false, laid := [("fallow/isa.rows", laid_fallow_isa_rows)] }
def CoreRunsSaid : Prop := coreRunsRow.holds Tryz.pinned (OpenSpec.ofChange coreRunsSpec)

/-- ITS FALSE NEIGHBOUR: 'it returns false'. Refute it at one input. -/
def coreRunsWrong : ChangeSpec := { name := "coreRuns", fn := fun _ => fun
  | [d1, d2] => { results := [.lit (.bool false)], args := [d1, d2] }
  | _ => none }
def CoreRunsWrongFalsely : Prop := coreRunsRow.holds Tryz.pinned (OpenSpec.ofChange coreRunsWrong)

/- THE SECOND FORM. 'bulk': how many values and letters a reading holds, each counted each time it is reached (what is shared counts as often as it is met; a slice's spare places count too). A statement '..UptoSaid' is the law's where the arguments, and the package variables that the reading takes, are together of bulk at most 1048576: NARROWER than '..Said'. Prove '..Said' where nothing that the law and all that it calls make is longer than what came in: it says more and counts as full. Else prove '..UptoSaid'. A law counts once. -/
mutual
def uptoBulk {H : Type} : DataW H → Nat
  | .lit (.string bytes) => bytes.length + 1
  | .lit _ => 1
  | .nil => 1
  | .ptr d => uptoBulk d + 1
  | .slice elems spare => uptoBulkAll elems + uptoBulkAll spare + 1
  | .agg parts => uptoBulkAll parts + 1
  | .iface _ d => uptoBulk d + 1
  | .map entries => uptoBulkEntries entries + 1
  | .held _ => 1
def uptoBulkAll {H : Type} : List (DataW H) → Nat
  | [] => 0
  | d :: r => uptoBulk d + uptoBulkAll r
def uptoBulkEntries {H : Type} : List (Lit × DataW H) → Nat
  | [] => 0
  | x :: r => uptoBulkEntry x + uptoBulkEntries r
def uptoBulkEntry {H : Type} : Lit × DataW H → Nat
  | (.string bytes, d) => bytes.length + uptoBulk d + 1
  | (_, d) => uptoBulk d + 1
 end
def uptoSmall : (H : Type) → List (DataW H) → Bool := fun _ ds => decide (uptoBulkAll ds ≤ 1048576)
def OpenSpec.upto (s : _root_.Go.ChangeSpec) : _root_.Go.OpenSpec := { _root_.Go.OpenSpec.ofChange s with cond := some uptoSmall }

/-- 'fallowlaw10.CoreMoves', WHERE WHAT IT READS IS OF BULK AT MOST 1048576: true; the input reads as it did. -/
def coreMovesUptoRow : OpenClaim := { program := "ytagacmljbgkmoaagreatdoor", sum := "eb5378833b721b97bc3ee250d3d0b76ea75c758afd81caa58fc0bcd07cbbd704", func := "fallow/fallowlaw10.CoreMoves", spec := "coreMoves", unfollowed := true, recurses := true, named := ["fallow/isa.rows"], apart := false, laid := [("fallow/isa.rows", laid_fallow_isa_rows)], narrowed := true }
def CoreMovesUptoSaid : Prop := coreMovesUptoRow.holds Tryz.pinned (OpenSpec.upto coreMovesSpec)

/-- 'fallowlaw10.CoreNoMore', WHERE WHAT IT READS IS OF BULK AT MOST 1048576: true; the input reads as it did. -/
def coreNoMoreUptoRow : OpenClaim := { program := "ytagacmljbgkmoaagreatdoor", sum := "eb5378833b721b97bc3ee250d3d0b76ea75c758afd81caa58fc0bcd07cbbd704", func := "fallow/fallowlaw10.CoreNoMore", spec := "coreNoMore", unfollowed := true, recurses := true, named := ["fallow/isa.rows"], apart := false, laid := [("fallow/isa.rows", laid_fallow_isa_rows)], narrowed := true }
def CoreNoMoreUptoSaid : Prop := coreNoMoreUptoRow.holds Tryz.pinned (OpenSpec.upto coreNoMoreSpec)

/-- 'fallowlaw10.CoreData', WHERE WHAT IT READS IS OF BULK AT MOST 1048576: true; the input reads as it did. -/
def coreDataUptoRow : OpenClaim := { program := "ytagacmljbgkmoaagreatdoor", sum := "eb5378833b721b97bc3ee250d3d0b76ea75c758afd81caa58fc0bcd07cbbd704", func := "fallow/fallowlaw10.CoreData", spec := "coreData", unfollowed := true, recurses := true, named := ["fallow/isa.rows"], apart := false, laid := [("fallow/isa.rows", laid_fallow_isa_rows)], narrowed := true }
def CoreDataUptoSaid : Prop := coreDataUptoRow.holds Tryz.pinned (OpenSpec.upto coreDataSpec)

/-- 'fallowlaw10.CoreDoes', WHERE WHAT IT READS IS OF BULK AT MOST 1048576: true; the input reads as it did. -/
def coreDoesUptoRow : OpenClaim := { program := "ytagacmljbgkmoaagreatdoor", sum := "eb5378833b721b97bc3ee250d3d0b76ea75c758afd81caa58fc0bcd07cbbd704", func := "fallow/fallowlaw10.CoreDoes", spec := "coreDoes", unfollowed := true, recurses := true, named := ["fallow/isa.rows"], apart := false, laid := [("fallow/isa.rows", laid_fallow_isa_rows)], narrowed := true }
def CoreDoesUptoSaid : Prop := coreDoesUptoRow.holds Tryz.pinned (OpenSpec.upto coreDoesSpec)

/-- 'fallowlaw10.CoreKnown', WHERE WHAT IT READS IS OF BULK AT MOST 1048576: true; the input reads as it did. -/
def coreKnownUptoRow : OpenClaim := { program := "ytagacmljbgkmoaagreatdoor", sum := "eb5378833b721b97bc3ee250d3d0b76ea75c758afd81caa58fc0bcd07cbbd704", func := "fallow/fallowlaw10.CoreKnown", spec := "coreKnown", unfollowed := true, recurses := true, named := ["fallow/isa.rows"], apart := false, laid := [("fallow/isa.rows", laid_fallow_isa_rows)], narrowed := true }
def CoreKnownUptoSaid : Prop := coreKnownUptoRow.holds Tryz.pinned (OpenSpec.upto coreKnownSpec)

/-- 'fallowlaw10.CoreRuns', WHERE WHAT IT READS IS OF BULK AT MOST 1048576: true; the input reads as it did. -/
def coreRunsUptoRow : OpenClaim := { program := "ytagacmljbgkmoaagreatdoor", sum := "eb5378833b721b97bc3ee250d3d0b76ea75c758afd81caa58fc0bcd07cbbd704", func := "fallow/fallowlaw10.CoreRuns", spec := "coreRuns", unfollowed := true, recurses := true, named := ["fallow/isa.rows"], apart := false, laid := [("fallow/isa.rows", laid_fallow_isa_rows)], narrowed := true }
def CoreRunsUptoSaid : Prop := coreRunsUptoRow.holds Tryz.pinned (OpenSpec.upto coreRunsSpec)

end Rows
end Go.Proofs.YtagacmljbgkmoaaGreatDoor

/-
  DERIVED. GIVEN WITH THE SEED: THE CARDS: each row of YtagacmljbgkmoaaGreatDoorRows.lean that lists a variable, with what it lists TIED to the program's text (the seventh form; the later family's looks); each row that meets fmt, with fmt's text TOLD by the authors' own Lean function (tested against real Go, not proved from fmt's source: count such statements apart). THE CARD IS WHAT COUNTS. Prove the row's statement (the work); the ties are given (YtagacmljbgkmoaaGreatDoorTie.lean); close each card by the builder's one call (the guide's Derived/Test/ToyasCard.lean, 'card_holds'). Laid BY PROGRAM, IN A SANDBOX (cutbox-door.mjs). By AI agents, Wed Nov 11 2026. No macro, syntax, notation, axiom, sorry.
-/
import Derived.Test.YtagacmljbgkmoaaGreatDoorRows
import GoSem.ClaimSeven
namespace Go.Proofs.YtagacmljbgkmoaaGreatDoor
namespace Rows

/-- THE TIED CARD OF 'fallowlaw10.CoreMoves'. -/
def coreMovesCard : Claim7 := { stood := { row := coreMovesRow, standIns := [], harness := (true, "5c889a4d71ca83d207d501e6164c88d6dcb82c2469ee47b3f7263d1e141fe0fb"), looks := false }, kinds := [], alts := [], laidByText := true, laidKinds := [.data], laidTests := true, laidLooks := .later }
def CoreMovesCardSaid : Prop := Claim7.holds Tryz.pinned (.plain (OpenSpec.ofChange coreMovesSpec)) coreMovesCard

/-- THE TIED CARD OF 'fallowlaw10.CoreNoMore'. -/
def coreNoMoreCard : Claim7 := { stood := { row := coreNoMoreRow, standIns := [], harness := (true, "5c889a4d71ca83d207d501e6164c88d6dcb82c2469ee47b3f7263d1e141fe0fb"), looks := false }, kinds := [], alts := [], laidByText := true, laidKinds := [.data], laidTests := true, laidLooks := .later }
def CoreNoMoreCardSaid : Prop := Claim7.holds Tryz.pinned (.plain (OpenSpec.ofChange coreNoMoreSpec)) coreNoMoreCard

/-- THE TIED CARD OF 'fallowlaw10.CoreData'. -/
def coreDataCard : Claim7 := { stood := { row := coreDataRow, standIns := [], harness := (true, "5c889a4d71ca83d207d501e6164c88d6dcb82c2469ee47b3f7263d1e141fe0fb"), looks := false }, kinds := [], alts := [], laidByText := true, laidKinds := [.data], laidTests := true, laidLooks := .later }
def CoreDataCardSaid : Prop := Claim7.holds Tryz.pinned (.plain (OpenSpec.ofChange coreDataSpec)) coreDataCard

/-- THE TIED CARD OF 'fallowlaw10.CoreDoes'. -/
def coreDoesCard : Claim7 := { stood := { row := coreDoesRow, standIns := [], harness := (true, "5c889a4d71ca83d207d501e6164c88d6dcb82c2469ee47b3f7263d1e141fe0fb"), looks := false }, kinds := [], alts := [], laidByText := true, laidKinds := [.data], laidTests := true, laidLooks := .later }
def CoreDoesCardSaid : Prop := Claim7.holds Tryz.pinned (.plain (OpenSpec.ofChange coreDoesSpec)) coreDoesCard

/-- THE TIED CARD OF 'fallowlaw10.CoreKnown'. -/
def coreKnownCard : Claim7 := { stood := { row := coreKnownRow, standIns := [], harness := (true, "5c889a4d71ca83d207d501e6164c88d6dcb82c2469ee47b3f7263d1e141fe0fb"), looks := false }, kinds := [], alts := [], laidByText := true, laidKinds := [.data], laidTests := true, laidLooks := .later }
def CoreKnownCardSaid : Prop := Claim7.holds Tryz.pinned (.plain (OpenSpec.ofChange coreKnownSpec)) coreKnownCard

/-- THE TIED CARD OF 'fallowlaw10.CoreRuns'. -/
def coreRunsCard : Claim7 := { stood := { row := coreRunsRow, standIns := [], harness := (true, "5c889a4d71ca83d207d501e6164c88d6dcb82c2469ee47b3f7263d1e141fe0fb"), looks := false }, kinds := [], alts := [], laidByText := true, laidKinds := [.data], laidTests := true, laidLooks := .later }
def CoreRunsCardSaid : Prop := Claim7.holds Tryz.pinned (.plain (OpenSpec.ofChange coreRunsSpec)) coreRunsCard

/-- THE SECOND FORM's CARD OF 'fallowlaw10.CoreMoves'. -/
def coreMovesUptoCard : Claim7 := { stood := { row := coreMovesUptoRow, standIns := [], harness := (true, "5c889a4d71ca83d207d501e6164c88d6dcb82c2469ee47b3f7263d1e141fe0fb"), looks := false }, kinds := [], alts := [], laidByText := true, laidKinds := [.data], laidTests := true, laidLooks := .later }
def CoreMovesUptoCardSaid : Prop := Claim7.holds Tryz.pinned (.plain (OpenSpec.upto coreMovesSpec)) coreMovesUptoCard

/-- THE SECOND FORM's CARD OF 'fallowlaw10.CoreNoMore'. -/
def coreNoMoreUptoCard : Claim7 := { stood := { row := coreNoMoreUptoRow, standIns := [], harness := (true, "5c889a4d71ca83d207d501e6164c88d6dcb82c2469ee47b3f7263d1e141fe0fb"), looks := false }, kinds := [], alts := [], laidByText := true, laidKinds := [.data], laidTests := true, laidLooks := .later }
def CoreNoMoreUptoCardSaid : Prop := Claim7.holds Tryz.pinned (.plain (OpenSpec.upto coreNoMoreSpec)) coreNoMoreUptoCard

/-- THE SECOND FORM's CARD OF 'fallowlaw10.CoreData'. -/
def coreDataUptoCard : Claim7 := { stood := { row := coreDataUptoRow, standIns := [], harness := (true, "5c889a4d71ca83d207d501e6164c88d6dcb82c2469ee47b3f7263d1e141fe0fb"), looks := false }, kinds := [], alts := [], laidByText := true, laidKinds := [.data], laidTests := true, laidLooks := .later }
def CoreDataUptoCardSaid : Prop := Claim7.holds Tryz.pinned (.plain (OpenSpec.upto coreDataSpec)) coreDataUptoCard

/-- THE SECOND FORM's CARD OF 'fallowlaw10.CoreDoes'. -/
def coreDoesUptoCard : Claim7 := { stood := { row := coreDoesUptoRow, standIns := [], harness := (true, "5c889a4d71ca83d207d501e6164c88d6dcb82c2469ee47b3f7263d1e141fe0fb"), looks := false }, kinds := [], alts := [], laidByText := true, laidKinds := [.data], laidTests := true, laidLooks := .later }
def CoreDoesUptoCardSaid : Prop := Claim7.holds Tryz.pinned (.plain (OpenSpec.upto coreDoesSpec)) coreDoesUptoCard

/-- THE SECOND FORM's CARD OF 'fallowlaw10.CoreKnown'. -/
def coreKnownUptoCard : Claim7 := { stood := { row := coreKnownUptoRow, standIns := [], harness := (true, "5c889a4d71ca83d207d501e6164c88d6dcb82c2469ee47b3f7263d1e141fe0fb"), looks := false }, kinds := [], alts := [], laidByText := true, laidKinds := [.data], laidTests := true, laidLooks := .later }
def CoreKnownUptoCardSaid : Prop := Claim7.holds Tryz.pinned (.plain (OpenSpec.upto coreKnownSpec)) coreKnownUptoCard

/-- THE SECOND FORM's CARD OF 'fallowlaw10.CoreRuns'. -/
def coreRunsUptoCard : Claim7 := { stood := { row := coreRunsUptoRow, standIns := [], harness := (true, "5c889a4d71ca83d207d501e6164c88d6dcb82c2469ee47b3f7263d1e141fe0fb"), looks := false }, kinds := [], alts := [], laidByText := true, laidKinds := [.data], laidTests := true, laidLooks := .later }
def CoreRunsUptoCardSaid : Prop := Claim7.holds Tryz.pinned (.plain (OpenSpec.upto coreRunsSpec)) coreRunsUptoCard
end Rows
end Go.Proofs.YtagacmljbgkmoaaGreatDoor

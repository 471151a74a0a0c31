/-
  DERIVED. GIVEN WITH THE SEED: THE CARDS: each row of YtgdkomgfalkihaaGreatDoorRows.lean that lists a variable, with what it lists TIED to the program's text (the seventh form; the later family's looks); each row that meets fmt, with fmt's text TOLD by the authors' own Lean function (tested against real Go, not proved from fmt's source: count such statements apart). THE CARD IS WHAT COUNTS. Prove the row's statement (the work); the ties are given (YtgdkomgfalkihaaGreatDoorTie.lean); close each card by the builder's one call (the guide's Derived/Test/ToyasCard.lean, 'card_holds'). Laid BY PROGRAM, IN A SANDBOX (cutbox-door.mjs). By AI agents, Wed Nov 11 2026. No macro, syntax, notation, axiom, sorry.
-/
import Derived.Test.YtgdkomgfalkihaaGreatDoorRows
import GoSem.ClaimSeven
namespace Go.Proofs.YtgdkomgfalkihaaGreatDoor
namespace Rows

/-- THE TIED CARD OF 'bipolelaw07.ValveChanges'. -/
def valveChangesCard : Claim7 := { stood := { row := valveChangesRow, standIns := [], harness := (true, "5167acc93b9aa163c1c1f5144d08229abacd0c5f36cfde48b0330e8580d1e63d"), looks := false }, kinds := [], alts := [], laidByText := true, laidKinds := [.data, .data, .data, .data], laidTests := true, laidLooks := .later }
def ValveChangesCardSaid : Prop := Claim7.holds Tryz.pinned (.plain (OpenSpec.ofChange valveChangesSpec)) valveChangesCard

/-- THE TIED CARD OF 'bipolelaw07.ValveTelegrams'. -/
def valveTelegramsCard : Claim7 := { stood := { row := valveTelegramsRow, standIns := [], harness := (true, "5167acc93b9aa163c1c1f5144d08229abacd0c5f36cfde48b0330e8580d1e63d"), looks := false }, kinds := [], alts := [], laidByText := true, laidKinds := [.data, .data, .data, .data], laidTests := true, laidLooks := .later }
def ValveTelegramsCardSaid : Prop := Claim7.holds Tryz.pinned (.plain (OpenSpec.ofChange valveTelegramsSpec)) valveTelegramsCard

/-- THE TIED CARD OF 'bipolelaw07.ValveLogs'. -/
def valveLogsCard : Claim7 := { stood := { row := valveLogsRow, standIns := [], harness := (true, "5167acc93b9aa163c1c1f5144d08229abacd0c5f36cfde48b0330e8580d1e63d"), looks := false }, kinds := [], alts := [], laidByText := true, laidKinds := [.data, .data, .data, .data], laidTests := true, laidLooks := .later }
def ValveLogsCardSaid : Prop := Claim7.holds Tryz.pinned (.plain (OpenSpec.ofChange valveLogsSpec)) valveLogsCard

/-- THE TIED CARD OF 'bipolelaw07.ValveLife'. -/
def valveLifeCard : Claim7 := { stood := { row := valveLifeRow, standIns := [], harness := (true, "5167acc93b9aa163c1c1f5144d08229abacd0c5f36cfde48b0330e8580d1e63d"), looks := false }, kinds := [], alts := [], laidByText := true, laidKinds := [.data, .data, .data, .data], laidTests := true, laidLooks := .later }
def ValveLifeCardSaid : Prop := Claim7.holds Tryz.pinned (.plain (OpenSpec.ofChange valveLifeSpec)) valveLifeCard

/-- THE SECOND FORM's CARD OF 'bipolelaw07.ValveChanges'. -/
def valveChangesUptoCard : Claim7 := { stood := { row := valveChangesUptoRow, standIns := [], harness := (true, "5167acc93b9aa163c1c1f5144d08229abacd0c5f36cfde48b0330e8580d1e63d"), looks := false }, kinds := [], alts := [], laidByText := true, laidKinds := [.data, .data, .data, .data], laidTests := true, laidLooks := .later }
def ValveChangesUptoCardSaid : Prop := Claim7.holds Tryz.pinned (.plain (OpenSpec.upto valveChangesSpec)) valveChangesUptoCard

/-- THE SECOND FORM's CARD OF 'bipolelaw07.ValveTelegrams'. -/
def valveTelegramsUptoCard : Claim7 := { stood := { row := valveTelegramsUptoRow, standIns := [], harness := (true, "5167acc93b9aa163c1c1f5144d08229abacd0c5f36cfde48b0330e8580d1e63d"), looks := false }, kinds := [], alts := [], laidByText := true, laidKinds := [.data, .data, .data, .data], laidTests := true, laidLooks := .later }
def ValveTelegramsUptoCardSaid : Prop := Claim7.holds Tryz.pinned (.plain (OpenSpec.upto valveTelegramsSpec)) valveTelegramsUptoCard

/-- THE SECOND FORM's CARD OF 'bipolelaw07.ValveLogs'. -/
def valveLogsUptoCard : Claim7 := { stood := { row := valveLogsUptoRow, standIns := [], harness := (true, "5167acc93b9aa163c1c1f5144d08229abacd0c5f36cfde48b0330e8580d1e63d"), looks := false }, kinds := [], alts := [], laidByText := true, laidKinds := [.data, .data, .data, .data], laidTests := true, laidLooks := .later }
def ValveLogsUptoCardSaid : Prop := Claim7.holds Tryz.pinned (.plain (OpenSpec.upto valveLogsSpec)) valveLogsUptoCard

/-- THE SECOND FORM's CARD OF 'bipolelaw07.ValveLife'. -/
def valveLifeUptoCard : Claim7 := { stood := { row := valveLifeUptoRow, standIns := [], harness := (true, "5167acc93b9aa163c1c1f5144d08229abacd0c5f36cfde48b0330e8580d1e63d"), looks := false }, kinds := [], alts := [], laidByText := true, laidKinds := [.data, .data, .data, .data], laidTests := true, laidLooks := .later }
def ValveLifeUptoCardSaid : Prop := Claim7.holds Tryz.pinned (.plain (OpenSpec.upto valveLifeSpec)) valveLifeUptoCard
end Rows
end Go.Proofs.YtgdkomgfalkihaaGreatDoor

/-
  DERIVED. GIVEN WITH THE SEED: THE CARDS: each row of YtpmngcffkhbofaaGreatDoorRows.lean that lists a variable, with what it lists TIED to the program's text (the seventh form; the later family's looks); each row that meets fmt, with fmt's text TOLD by the authors' own Lean function (tested against real Go, not proved from fmt's source: count such statements apart). THE CARD IS WHAT COUNTS. Prove the row's statement (the work); the ties are given (YtpmngcffkhbofaaGreatDoorTie.lean); close each card by the builder's one call (the guide's Derived/Test/ToyasCard.lean, 'card_holds'). Laid BY PROGRAM, IN A SANDBOX (cutbox-door.mjs). By AI agents, Wed Nov 11 2026. No macro, syntax, notation, axiom, sorry.
-/
import Derived.Test.YtpmngcffkhbofaaGreatDoorRows
import GoSem.ClaimSeven
namespace Go.Proofs.YtpmngcffkhbofaaGreatDoor
namespace Rows

/-- THE TIED CARD OF 'bipolelaw07.ValveTexts'. -/
def valveTextsCard : Claim7 := { stood := { row := valveTextsRow, standIns := [], harness := (true, "59fae1609f200cac5399e3804d12cee1c9b5f8d180f65ece41c7d31923390a67"), looks := false }, kinds := [], alts := [], laidByText := true, laidKinds := [.data, .data, .data, .data, .data, .pinned], laidTests := true, laidLooks := .later }
def ValveTextsCardSaid : Prop := Claim7.holds Tryz.pinned (.plain (OpenSpec.ofChange valveTextsSpec)) valveTextsCard

/-- THE TIED CARD OF 'bipolelaw07.ValveBack'. -/
def valveBackCard : Claim7 := { stood := { row := valveBackRow, standIns := [], harness := (true, "59fae1609f200cac5399e3804d12cee1c9b5f8d180f65ece41c7d31923390a67"), looks := false }, kinds := [], alts := [], laidByText := true, laidKinds := [.data, .data, .data, .data, .data, .pinned], laidTests := true, laidLooks := .later }
def ValveBackCardSaid : Prop := Claim7.holds Tryz.pinned (.plain (OpenSpec.ofChange valveBackSpec)) valveBackCard

/-- THE SECOND FORM's CARD OF 'bipolelaw07.ValveTexts'. -/
def valveTextsUptoCard : Claim7 := { stood := { row := valveTextsUptoRow, standIns := [], harness := (true, "59fae1609f200cac5399e3804d12cee1c9b5f8d180f65ece41c7d31923390a67"), looks := false }, kinds := [], alts := [], laidByText := true, laidKinds := [.data, .data, .data, .data, .data, .pinned], laidTests := true, laidLooks := .later }
def ValveTextsUptoCardSaid : Prop := Claim7.holds Tryz.pinned (.plain (OpenSpec.upto valveTextsSpec)) valveTextsUptoCard

/-- THE SECOND FORM's CARD OF 'bipolelaw07.ValveBack'. -/
def valveBackUptoCard : Claim7 := { stood := { row := valveBackUptoRow, standIns := [], harness := (true, "59fae1609f200cac5399e3804d12cee1c9b5f8d180f65ece41c7d31923390a67"), looks := false }, kinds := [], alts := [], laidByText := true, laidKinds := [.data, .data, .data, .data, .data, .pinned], laidTests := true, laidLooks := .later }
def ValveBackUptoCardSaid : Prop := Claim7.holds Tryz.pinned (.plain (OpenSpec.upto valveBackSpec)) valveBackUptoCard
end Rows
end Go.Proofs.YtpmngcffkhbofaaGreatDoor

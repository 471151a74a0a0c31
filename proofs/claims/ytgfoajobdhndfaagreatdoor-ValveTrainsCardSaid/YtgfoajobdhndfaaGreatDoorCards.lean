/-
  DERIVED. GIVEN WITH THE SEED: THE CARDS: each row of YtgfoajobdhndfaaGreatDoorRows.lean that lists a variable, with what it lists TIED to the program's text (the seventh form; the later family's looks); each row that meets fmt, with fmt's text TOLD by the authors' own Lean function (tested against real Go, not proved from fmt's source: count such statements apart). THE CARD IS WHAT COUNTS. Prove the row's statement (the work); the ties are given (YtgfoajobdhndfaaGreatDoorTie.lean); close each card by the builder's one call (the guide's Derived/Test/ToyasCard.lean, 'card_holds'). Laid BY PROGRAM, IN A SANDBOX (cutbox-door.mjs). By AI agents, Wed Nov 11 2026. No macro, syntax, notation, axiom, sorry.
-/
import Derived.Test.YtgfoajobdhndfaaGreatDoorRows
import GoSem.ClaimSeven
namespace Go.Proofs.YtgfoajobdhndfaaGreatDoor
namespace Rows

/-- THE TIED CARD OF 'bipolelaw07.ValveTrains'. -/
def valveTrainsCard : Claim7 := { stood := { row := valveTrainsRow, standIns := [], harness := (true, "8b09c510f6ba873c360571a555c5c0b5c69348d2f6d7cd1659342f526509ba49"), looks := false }, kinds := [], alts := [], laidByText := true, laidKinds := [.data, .data, .data, .data], laidTests := true, laidLooks := .later }
def ValveTrainsCardSaid : Prop := Claim7.holds Tryz.pinned (.plain (OpenSpec.ofChange valveTrainsSpec)) valveTrainsCard

/-- THE SECOND FORM's CARD OF 'bipolelaw07.ValveTrains'. -/
def valveTrainsUptoCard : Claim7 := { stood := { row := valveTrainsUptoRow, standIns := [], harness := (true, "8b09c510f6ba873c360571a555c5c0b5c69348d2f6d7cd1659342f526509ba49"), looks := false }, kinds := [], alts := [], laidByText := true, laidKinds := [.data, .data, .data, .data], laidTests := true, laidLooks := .later }
def ValveTrainsUptoCardSaid : Prop := Claim7.holds Tryz.pinned (.plain (OpenSpec.upto valveTrainsSpec)) valveTrainsUptoCard
end Rows
end Go.Proofs.YtgfoajobdhndfaaGreatDoor

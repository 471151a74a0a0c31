/-
  DERIVED. GIVEN WITH THE SEED: THE CARDS: each row of YtfeajpkjjlddlaaGreatDoorRows.lean that lists a variable, with what it lists TIED to the program's text (the seventh form; the later family's looks); each row that meets fmt, with fmt's text TOLD by the authors' own Lean function (tested against real Go, not proved from fmt's source: count such statements apart). THE CARD IS WHAT COUNTS. Prove the row's statement (the work); the ties are given (YtfeajpkjjlddlaaGreatDoorTie.lean); close each card by the builder's one call (the guide's Derived/Test/ToyasCard.lean, 'card_holds'). Laid BY PROGRAM, IN A SANDBOX (cutbox-door.mjs). By AI agents, Wed Nov 11 2026. No macro, syntax, notation, axiom, sorry.
-/
import Derived.Test.YtfeajpkjjlddlaaGreatDoorRows
import GoSem.ClaimSeven
namespace Go.Proofs.YtfeajpkjjlddlaaGreatDoor
namespace Rows

/-- THE TIED CARD OF 'bipolelaw04.HarmonicRecords'. -/
def harmonicRecordsCard : Claim7 := { stood := { row := harmonicRecordsRow, standIns := [], harness := (true, "bc24d379a1bea9971804603950d0f66eaffbc46fc92d782488faadb316c6503d"), looks := false }, kinds := [], alts := [], laidByText := true, laidKinds := [.data, .data, .data, .data], laidTests := true, laidLooks := .later }
def HarmonicRecordsCardSaid : Prop := Claim7.holds Tryz.pinned (.plain (OpenSpec.ofChange harmonicRecordsSpec)) harmonicRecordsCard

/-- THE SECOND FORM's CARD OF 'bipolelaw04.HarmonicRecords'. -/
def harmonicRecordsUptoCard : Claim7 := { stood := { row := harmonicRecordsUptoRow, standIns := [], harness := (true, "bc24d379a1bea9971804603950d0f66eaffbc46fc92d782488faadb316c6503d"), looks := false }, kinds := [], alts := [], laidByText := true, laidKinds := [.data, .data, .data, .data], laidTests := true, laidLooks := .later }
def HarmonicRecordsUptoCardSaid : Prop := Claim7.holds Tryz.pinned (.plain (OpenSpec.upto harmonicRecordsSpec)) harmonicRecordsUptoCard
end Rows
end Go.Proofs.YtfeajpkjjlddlaaGreatDoor

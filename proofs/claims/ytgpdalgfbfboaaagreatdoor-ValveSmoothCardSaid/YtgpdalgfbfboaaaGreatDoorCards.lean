/-
  DERIVED. GIVEN WITH THE SEED: THE CARDS: each row of YtgpdalgfbfboaaaGreatDoorRows.lean that lists a variable, with what it lists TIED to the program's text (the seventh form; the later family's looks); each row that meets fmt, with fmt's text TOLD by the authors' own Lean function (tested against real Go, not proved from fmt's source: count such statements apart). THE CARD IS WHAT COUNTS. Prove the row's statement (the work); the ties are given (YtgpdalgfbfboaaaGreatDoorTie.lean); close each card by the builder's one call (the guide's Derived/Test/ToyasCard.lean, 'card_holds'). Laid BY PROGRAM, IN A SANDBOX (cutbox-door.mjs). By AI agents, Wed Nov 11 2026. No macro, syntax, notation, axiom, sorry.
-/
import Derived.Test.YtgpdalgfbfboaaaGreatDoorRows
import GoSem.ClaimSeven
namespace Go.Proofs.YtgpdalgfbfboaaaGreatDoor
namespace Rows

/-- THE TIED CARD OF 'bipolelaw07.ValveVotes'. -/
def valveVotesCard : Claim7 := { stood := { row := valveVotesRow, standIns := [], harness := (true, "067c562fac8bf0cbd3a9a689e5124caea69f15c5e5d5c853b3afac280b259329"), looks := false }, kinds := [], alts := [], laidByText := true, laidKinds := [.data, .data, .data, .data], laidTests := true, laidLooks := .later }
def ValveVotesCardSaid : Prop := Claim7.holds Tryz.pinned (.plain (OpenSpec.ofChange valveVotesSpec)) valveVotesCard

/-- THE TIED CARD OF 'bipolelaw07.ValveSmooth'. -/
def valveSmoothCard : Claim7 := { stood := { row := valveSmoothRow, standIns := [], harness := (true, "067c562fac8bf0cbd3a9a689e5124caea69f15c5e5d5c853b3afac280b259329"), looks := false }, kinds := [], alts := [], laidByText := true, laidKinds := [.data, .data, .data, .data], laidTests := true, laidLooks := .later }
def ValveSmoothCardSaid : Prop := Claim7.holds Tryz.pinned (.plain (OpenSpec.ofChange valveSmoothSpec)) valveSmoothCard

/-- THE SECOND FORM's CARD OF 'bipolelaw07.ValveVotes'. -/
def valveVotesUptoCard : Claim7 := { stood := { row := valveVotesUptoRow, standIns := [], harness := (true, "067c562fac8bf0cbd3a9a689e5124caea69f15c5e5d5c853b3afac280b259329"), looks := false }, kinds := [], alts := [], laidByText := true, laidKinds := [.data, .data, .data, .data], laidTests := true, laidLooks := .later }
def ValveVotesUptoCardSaid : Prop := Claim7.holds Tryz.pinned (.plain (OpenSpec.upto valveVotesSpec)) valveVotesUptoCard

/-- THE SECOND FORM's CARD OF 'bipolelaw07.ValveSmooth'. -/
def valveSmoothUptoCard : Claim7 := { stood := { row := valveSmoothUptoRow, standIns := [], harness := (true, "067c562fac8bf0cbd3a9a689e5124caea69f15c5e5d5c853b3afac280b259329"), looks := false }, kinds := [], alts := [], laidByText := true, laidKinds := [.data, .data, .data, .data], laidTests := true, laidLooks := .later }
def ValveSmoothUptoCardSaid : Prop := Claim7.holds Tryz.pinned (.plain (OpenSpec.upto valveSmoothSpec)) valveSmoothUptoCard
end Rows
end Go.Proofs.YtgpdalgfbfboaaaGreatDoor

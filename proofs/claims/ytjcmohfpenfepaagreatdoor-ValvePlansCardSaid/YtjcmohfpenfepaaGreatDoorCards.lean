/-
  DERIVED. GIVEN WITH THE SEED: THE CARDS: each row of YtjcmohfpenfepaaGreatDoorRows.lean that lists a variable, with what it lists TIED to the program's text (the seventh form; the later family's looks); each row that meets fmt, with fmt's text TOLD by the authors' own Lean function (tested against real Go, not proved from fmt's source: count such statements apart). THE CARD IS WHAT COUNTS. Prove the row's statement (the work); the ties are given (YtjcmohfpenfepaaGreatDoorTie.lean); close each card by the builder's one call (the guide's Derived/Test/ToyasCard.lean, 'card_holds'). Laid BY PROGRAM, IN A SANDBOX (cutbox-door.mjs). By AI agents, Wed Nov 11 2026. No macro, syntax, notation, axiom, sorry.
-/
import Derived.Test.YtjcmohfpenfepaaGreatDoorRows
import GoSem.ClaimSeven
namespace Go.Proofs.YtjcmohfpenfepaaGreatDoor
namespace Rows

/-- THE TIED CARD OF 'bipolelaw07.ValveWears'. -/
def valveWearsCard : Claim7 := { stood := { row := valveWearsRow, standIns := [], harness := (true, "6ea16a4b2a3c6faff3e32be44659d3a36a8cc39cfd71736239836a7b942f219a"), looks := false }, kinds := [], alts := [], laidByText := true, laidKinds := [.data, .data, .data, .data], laidTests := true, laidLooks := .later }
def ValveWearsCardSaid : Prop := Claim7.holds Tryz.pinned (.plain (OpenSpec.ofChange valveWearsSpec)) valveWearsCard

/-- THE TIED CARD OF 'bipolelaw07.ValvePlans'. -/
def valvePlansCard : Claim7 := { stood := { row := valvePlansRow, standIns := [], harness := (true, "6ea16a4b2a3c6faff3e32be44659d3a36a8cc39cfd71736239836a7b942f219a"), looks := false }, kinds := [], alts := [], laidByText := true, laidKinds := [.data, .data, .data, .data], laidTests := true, laidLooks := .later }
def ValvePlansCardSaid : Prop := Claim7.holds Tryz.pinned (.plain (OpenSpec.ofChange valvePlansSpec)) valvePlansCard

/-- THE TIED CARD OF 'bipolelaw07.ValveCheapest'. -/
def valveCheapestCard : Claim7 := { stood := { row := valveCheapestRow, standIns := [], harness := (true, "6ea16a4b2a3c6faff3e32be44659d3a36a8cc39cfd71736239836a7b942f219a"), looks := false }, kinds := [], alts := [], laidByText := true, laidKinds := [.data, .data, .data, .data], laidTests := true, laidLooks := .later }
def ValveCheapestCardSaid : Prop := Claim7.holds Tryz.pinned (.plain (OpenSpec.ofChange valveCheapestSpec)) valveCheapestCard

/-- THE SECOND FORM's CARD OF 'bipolelaw07.ValveWears'. -/
def valveWearsUptoCard : Claim7 := { stood := { row := valveWearsUptoRow, standIns := [], harness := (true, "6ea16a4b2a3c6faff3e32be44659d3a36a8cc39cfd71736239836a7b942f219a"), looks := false }, kinds := [], alts := [], laidByText := true, laidKinds := [.data, .data, .data, .data], laidTests := true, laidLooks := .later }
def ValveWearsUptoCardSaid : Prop := Claim7.holds Tryz.pinned (.plain (OpenSpec.upto valveWearsSpec)) valveWearsUptoCard

/-- THE SECOND FORM's CARD OF 'bipolelaw07.ValvePlans'. -/
def valvePlansUptoCard : Claim7 := { stood := { row := valvePlansUptoRow, standIns := [], harness := (true, "6ea16a4b2a3c6faff3e32be44659d3a36a8cc39cfd71736239836a7b942f219a"), looks := false }, kinds := [], alts := [], laidByText := true, laidKinds := [.data, .data, .data, .data], laidTests := true, laidLooks := .later }
def ValvePlansUptoCardSaid : Prop := Claim7.holds Tryz.pinned (.plain (OpenSpec.upto valvePlansSpec)) valvePlansUptoCard

/-- THE SECOND FORM's CARD OF 'bipolelaw07.ValveCheapest'. -/
def valveCheapestUptoCard : Claim7 := { stood := { row := valveCheapestUptoRow, standIns := [], harness := (true, "6ea16a4b2a3c6faff3e32be44659d3a36a8cc39cfd71736239836a7b942f219a"), looks := false }, kinds := [], alts := [], laidByText := true, laidKinds := [.data, .data, .data, .data], laidTests := true, laidLooks := .later }
def ValveCheapestUptoCardSaid : Prop := Claim7.holds Tryz.pinned (.plain (OpenSpec.upto valveCheapestSpec)) valveCheapestUptoCard
end Rows
end Go.Proofs.YtjcmohfpenfepaaGreatDoor

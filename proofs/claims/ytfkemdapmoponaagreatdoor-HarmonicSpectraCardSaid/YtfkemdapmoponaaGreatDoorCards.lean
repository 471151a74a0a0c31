/-
  DERIVED. GIVEN WITH THE SEED: THE CARDS: each row of YtfkemdapmoponaaGreatDoorRows.lean that lists a variable, with what it lists TIED to the program's text (the seventh form; the later family's looks); each row that meets fmt, with fmt's text TOLD by the authors' own Lean function (tested against real Go, not proved from fmt's source: count such statements apart). THE CARD IS WHAT COUNTS. Prove the row's statement (the work); the ties are given (YtfkemdapmoponaaGreatDoorTie.lean); close each card by the builder's one call (the guide's Derived/Test/ToyasCard.lean, 'card_holds'). Laid BY PROGRAM, IN A SANDBOX (cutbox-door.mjs). By AI agents, Wed Nov 11 2026. No macro, syntax, notation, axiom, sorry.
-/
import Derived.Test.YtfkemdapmoponaaGreatDoorRows
import GoSem.ClaimSeven
namespace Go.Proofs.YtfkemdapmoponaaGreatDoor
namespace Rows

/-- THE TIED CARD OF 'bipolelaw04.HarmonicNumbers'. -/
def harmonicNumbersCard : Claim7 := { stood := { row := harmonicNumbersRow, standIns := [], harness := (true, "6f0f484382f8d9c3b4e680c091ebc605f8fd305d9c25c3a7e53bb4abb163aa5d"), looks := false }, kinds := [], alts := [], laidByText := true, laidKinds := [.data, .data, .data, .data], laidTests := true, laidLooks := .later }
def HarmonicNumbersCardSaid : Prop := Claim7.holds Tryz.pinned (.plain (OpenSpec.ofChange harmonicNumbersSpec)) harmonicNumbersCard

/-- THE TIED CARD OF 'bipolelaw04.HarmonicPolygons'. -/
def harmonicPolygonsCard : Claim7 := { stood := { row := harmonicPolygonsRow, standIns := [], harness := (true, "6f0f484382f8d9c3b4e680c091ebc605f8fd305d9c25c3a7e53bb4abb163aa5d"), looks := false }, kinds := [], alts := [], laidByText := true, laidKinds := [.data, .data, .data, .data], laidTests := true, laidLooks := .later }
def HarmonicPolygonsCardSaid : Prop := Claim7.holds Tryz.pinned (.plain (OpenSpec.ofChange harmonicPolygonsSpec)) harmonicPolygonsCard

/-- THE TIED CARD OF 'bipolelaw04.HarmonicFilters'. -/
def harmonicFiltersCard : Claim7 := { stood := { row := harmonicFiltersRow, standIns := [], harness := (true, "6f0f484382f8d9c3b4e680c091ebc605f8fd305d9c25c3a7e53bb4abb163aa5d"), looks := false }, kinds := [], alts := [], laidByText := true, laidKinds := [.data, .data, .data, .data], laidTests := true, laidLooks := .later }
def HarmonicFiltersCardSaid : Prop := Claim7.holds Tryz.pinned (.plain (OpenSpec.ofChange harmonicFiltersSpec)) harmonicFiltersCard

/-- THE TIED CARD OF 'bipolelaw04.HarmonicSpectra'. -/
def harmonicSpectraCard : Claim7 := { stood := { row := harmonicSpectraRow, standIns := [], harness := (true, "6f0f484382f8d9c3b4e680c091ebc605f8fd305d9c25c3a7e53bb4abb163aa5d"), looks := false }, kinds := [], alts := [], laidByText := true, laidKinds := [.data, .data, .data, .data], laidTests := true, laidLooks := .later }
def HarmonicSpectraCardSaid : Prop := Claim7.holds Tryz.pinned (.plain (OpenSpec.ofChange harmonicSpectraSpec)) harmonicSpectraCard

/-- THE SECOND FORM's CARD OF 'bipolelaw04.HarmonicNumbers'. -/
def harmonicNumbersUptoCard : Claim7 := { stood := { row := harmonicNumbersUptoRow, standIns := [], harness := (true, "6f0f484382f8d9c3b4e680c091ebc605f8fd305d9c25c3a7e53bb4abb163aa5d"), looks := false }, kinds := [], alts := [], laidByText := true, laidKinds := [.data, .data, .data, .data], laidTests := true, laidLooks := .later }
def HarmonicNumbersUptoCardSaid : Prop := Claim7.holds Tryz.pinned (.plain (OpenSpec.upto harmonicNumbersSpec)) harmonicNumbersUptoCard

/-- THE SECOND FORM's CARD OF 'bipolelaw04.HarmonicPolygons'. -/
def harmonicPolygonsUptoCard : Claim7 := { stood := { row := harmonicPolygonsUptoRow, standIns := [], harness := (true, "6f0f484382f8d9c3b4e680c091ebc605f8fd305d9c25c3a7e53bb4abb163aa5d"), looks := false }, kinds := [], alts := [], laidByText := true, laidKinds := [.data, .data, .data, .data], laidTests := true, laidLooks := .later }
def HarmonicPolygonsUptoCardSaid : Prop := Claim7.holds Tryz.pinned (.plain (OpenSpec.upto harmonicPolygonsSpec)) harmonicPolygonsUptoCard

/-- THE SECOND FORM's CARD OF 'bipolelaw04.HarmonicFilters'. -/
def harmonicFiltersUptoCard : Claim7 := { stood := { row := harmonicFiltersUptoRow, standIns := [], harness := (true, "6f0f484382f8d9c3b4e680c091ebc605f8fd305d9c25c3a7e53bb4abb163aa5d"), looks := false }, kinds := [], alts := [], laidByText := true, laidKinds := [.data, .data, .data, .data], laidTests := true, laidLooks := .later }
def HarmonicFiltersUptoCardSaid : Prop := Claim7.holds Tryz.pinned (.plain (OpenSpec.upto harmonicFiltersSpec)) harmonicFiltersUptoCard

/-- THE SECOND FORM's CARD OF 'bipolelaw04.HarmonicSpectra'. -/
def harmonicSpectraUptoCard : Claim7 := { stood := { row := harmonicSpectraUptoRow, standIns := [], harness := (true, "6f0f484382f8d9c3b4e680c091ebc605f8fd305d9c25c3a7e53bb4abb163aa5d"), looks := false }, kinds := [], alts := [], laidByText := true, laidKinds := [.data, .data, .data, .data], laidTests := true, laidLooks := .later }
def HarmonicSpectraUptoCardSaid : Prop := Claim7.holds Tryz.pinned (.plain (OpenSpec.upto harmonicSpectraSpec)) harmonicSpectraUptoCard
end Rows
end Go.Proofs.YtfkemdapmoponaaGreatDoor

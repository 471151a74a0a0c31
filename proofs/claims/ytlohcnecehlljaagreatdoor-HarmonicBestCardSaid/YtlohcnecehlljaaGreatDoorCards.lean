/-
  DERIVED. GIVEN WITH THE SEED: THE CARDS: each row of YtlohcnecehlljaaGreatDoorRows.lean that lists a variable, with what it lists TIED to the program's text (the seventh form; the later family's looks); each row that meets fmt, with fmt's text TOLD by the authors' own Lean function (tested against real Go, not proved from fmt's source: count such statements apart). THE CARD IS WHAT COUNTS. Prove the row's statement (the work); the ties are given (YtlohcnecehlljaaGreatDoorTie.lean); close each card by the builder's one call (the guide's Derived/Test/ToyasCard.lean, 'card_holds'). Laid BY PROGRAM, IN A SANDBOX (cutbox-door.mjs). By AI agents, Wed Nov 11 2026. No macro, syntax, notation, axiom, sorry.
-/
import Derived.Test.YtlohcnecehlljaaGreatDoorRows
import GoSem.ClaimSeven
namespace Go.Proofs.YtlohcnecehlljaaGreatDoor
namespace Rows

/-- THE TIED CARD OF 'bipolelaw04.HarmonicDesigns'. -/
def harmonicDesignsCard : Claim7 := { stood := { row := harmonicDesignsRow, standIns := [], harness := (true, "0ce70413bc057e53f98fa178068c0211126843f1bfcddfdcfab653b3ce8311b2"), looks := false }, kinds := [], alts := [], laidByText := true, laidKinds := [.data, .data, .data, .data], laidTests := true, laidLooks := .later }
def HarmonicDesignsCardSaid : Prop := Claim7.holds Tryz.pinned (.plain (OpenSpec.ofChange harmonicDesignsSpec)) harmonicDesignsCard

/-- THE TIED CARD OF 'bipolelaw04.HarmonicTaps'. -/
def harmonicTapsCard : Claim7 := { stood := { row := harmonicTapsRow, standIns := [], harness := (true, "0ce70413bc057e53f98fa178068c0211126843f1bfcddfdcfab653b3ce8311b2"), looks := false }, kinds := [], alts := [], laidByText := true, laidKinds := [.data, .data, .data, .data], laidTests := true, laidLooks := .later }
def HarmonicTapsCardSaid : Prop := Claim7.holds Tryz.pinned (.plain (OpenSpec.ofChange harmonicTapsSpec)) harmonicTapsCard

/-- THE TIED CARD OF 'bipolelaw04.HarmonicBest'. -/
def harmonicBestCard : Claim7 := { stood := { row := harmonicBestRow, standIns := [], harness := (true, "0ce70413bc057e53f98fa178068c0211126843f1bfcddfdcfab653b3ce8311b2"), looks := false }, kinds := [], alts := [], laidByText := true, laidKinds := [.data, .data, .data, .data], laidTests := true, laidLooks := .later }
def HarmonicBestCardSaid : Prop := Claim7.holds Tryz.pinned (.plain (OpenSpec.ofChange harmonicBestSpec)) harmonicBestCard

/-- THE TIED CARD OF 'bipolelaw04.HarmonicSeparates'. -/
def harmonicSeparatesCard : Claim7 := { stood := { row := harmonicSeparatesRow, standIns := [], harness := (true, "0ce70413bc057e53f98fa178068c0211126843f1bfcddfdcfab653b3ce8311b2"), looks := false }, kinds := [], alts := [], laidByText := true, laidKinds := [.data, .data, .data, .data], laidTests := true, laidLooks := .later }
def HarmonicSeparatesCardSaid : Prop := Claim7.holds Tryz.pinned (.plain (OpenSpec.ofChange harmonicSeparatesSpec)) harmonicSeparatesCard

/-- THE TIED CARD OF 'bipolelaw04.HarmonicSums'. -/
def harmonicSumsCard : Claim7 := { stood := { row := harmonicSumsRow, standIns := [], harness := (true, "0ce70413bc057e53f98fa178068c0211126843f1bfcddfdcfab653b3ce8311b2"), looks := false }, kinds := [], alts := [], laidByText := true, laidKinds := [.data, .data, .data, .data], laidTests := true, laidLooks := .later }
def HarmonicSumsCardSaid : Prop := Claim7.holds Tryz.pinned (.plain (OpenSpec.ofChange harmonicSumsSpec)) harmonicSumsCard

/-- THE SECOND FORM's CARD OF 'bipolelaw04.HarmonicDesigns'. -/
def harmonicDesignsUptoCard : Claim7 := { stood := { row := harmonicDesignsUptoRow, standIns := [], harness := (true, "0ce70413bc057e53f98fa178068c0211126843f1bfcddfdcfab653b3ce8311b2"), looks := false }, kinds := [], alts := [], laidByText := true, laidKinds := [.data, .data, .data, .data], laidTests := true, laidLooks := .later }
def HarmonicDesignsUptoCardSaid : Prop := Claim7.holds Tryz.pinned (.plain (OpenSpec.upto harmonicDesignsSpec)) harmonicDesignsUptoCard

/-- THE SECOND FORM's CARD OF 'bipolelaw04.HarmonicTaps'. -/
def harmonicTapsUptoCard : Claim7 := { stood := { row := harmonicTapsUptoRow, standIns := [], harness := (true, "0ce70413bc057e53f98fa178068c0211126843f1bfcddfdcfab653b3ce8311b2"), looks := false }, kinds := [], alts := [], laidByText := true, laidKinds := [.data, .data, .data, .data], laidTests := true, laidLooks := .later }
def HarmonicTapsUptoCardSaid : Prop := Claim7.holds Tryz.pinned (.plain (OpenSpec.upto harmonicTapsSpec)) harmonicTapsUptoCard

/-- THE SECOND FORM's CARD OF 'bipolelaw04.HarmonicBest'. -/
def harmonicBestUptoCard : Claim7 := { stood := { row := harmonicBestUptoRow, standIns := [], harness := (true, "0ce70413bc057e53f98fa178068c0211126843f1bfcddfdcfab653b3ce8311b2"), looks := false }, kinds := [], alts := [], laidByText := true, laidKinds := [.data, .data, .data, .data], laidTests := true, laidLooks := .later }
def HarmonicBestUptoCardSaid : Prop := Claim7.holds Tryz.pinned (.plain (OpenSpec.upto harmonicBestSpec)) harmonicBestUptoCard

/-- THE SECOND FORM's CARD OF 'bipolelaw04.HarmonicSeparates'. -/
def harmonicSeparatesUptoCard : Claim7 := { stood := { row := harmonicSeparatesUptoRow, standIns := [], harness := (true, "0ce70413bc057e53f98fa178068c0211126843f1bfcddfdcfab653b3ce8311b2"), looks := false }, kinds := [], alts := [], laidByText := true, laidKinds := [.data, .data, .data, .data], laidTests := true, laidLooks := .later }
def HarmonicSeparatesUptoCardSaid : Prop := Claim7.holds Tryz.pinned (.plain (OpenSpec.upto harmonicSeparatesSpec)) harmonicSeparatesUptoCard

/-- THE SECOND FORM's CARD OF 'bipolelaw04.HarmonicSums'. -/
def harmonicSumsUptoCard : Claim7 := { stood := { row := harmonicSumsUptoRow, standIns := [], harness := (true, "0ce70413bc057e53f98fa178068c0211126843f1bfcddfdcfab653b3ce8311b2"), looks := false }, kinds := [], alts := [], laidByText := true, laidKinds := [.data, .data, .data, .data], laidTests := true, laidLooks := .later }
def HarmonicSumsUptoCardSaid : Prop := Claim7.holds Tryz.pinned (.plain (OpenSpec.upto harmonicSumsSpec)) harmonicSumsUptoCard
end Rows
end Go.Proofs.YtlohcnecehlljaaGreatDoor

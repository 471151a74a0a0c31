/-
  DERIVED. GIVEN WITH THE SEED: THE CARDS: each row of YtoihfmndhfnmmaaGreatDoorRows.lean that lists a variable, with what it lists TIED to the program's text (the seventh form; the later family's looks); each row that meets fmt, with fmt's text TOLD by the authors' own Lean function (tested against real Go, not proved from fmt's source: count such statements apart). THE CARD IS WHAT COUNTS. Prove the row's statement (the work); the ties are given (YtoihfmndhfnmmaaGreatDoorTie.lean); close each card by the builder's one call (the guide's Derived/Test/ToyasCard.lean, 'card_holds'). Laid BY PROGRAM, IN A SANDBOX (cutbox-door.mjs). By AI agents, Wed Nov 11 2026. No macro, syntax, notation, axiom, sorry.
-/
import Derived.Test.YtoihfmndhfnmmaaGreatDoorRows
import GoSem.ClaimSeven
namespace Go.Proofs.YtoihfmndhfnmmaaGreatDoor
namespace Rows

/-- THE TIED CARD OF 'bipolelaw04.HarmonicSums'. -/
def harmonicSumsCard : Claim7 := { stood := { row := harmonicSumsRow, standIns := [], harness := (true, "dac6e2594a1211170c8551bb1a96fc7f2499236f899bb7518af60ecf2b1050c1"), looks := false }, kinds := [], alts := [], laidByText := true, laidKinds := [.data, .data, .data, .data], laidTests := true, laidLooks := .later }
def HarmonicSumsCardSaid : Prop := Claim7.holds Tryz.pinned (.plain (OpenSpec.ofChange harmonicSumsSpec)) harmonicSumsCard

/-- THE TIED CARD OF 'bipolelaw04.HarmonicRecords'. -/
def harmonicRecordsCard : Claim7 := { stood := { row := harmonicRecordsRow, standIns := [], harness := (true, "dac6e2594a1211170c8551bb1a96fc7f2499236f899bb7518af60ecf2b1050c1"), looks := false }, kinds := [], alts := [], laidByText := true, laidKinds := [.data, .data, .data, .data], laidTests := true, laidLooks := .later }
def HarmonicRecordsCardSaid : Prop := Claim7.holds Tryz.pinned (.plain (OpenSpec.ofChange harmonicRecordsSpec)) harmonicRecordsCard

/-- THE TIED CARD OF 'bipolelaw04.HarmonicTexts'. -/
def harmonicTextsCard : Claim7 := { stood := { row := harmonicTextsRow, standIns := [], harness := (true, "dac6e2594a1211170c8551bb1a96fc7f2499236f899bb7518af60ecf2b1050c1"), looks := false }, kinds := [], alts := [], laidByText := true, laidKinds := [.data, .data, .data, .data, .data, .pinned], laidTests := true, laidLooks := .later }
def HarmonicTextsCardSaid : Prop := Claim7.holds Tryz.pinned (.plain (OpenSpec.ofChange harmonicTextsSpec)) harmonicTextsCard

/-- THE TIED CARD OF 'bipolelaw04.HarmonicBack'. -/
def harmonicBackCard : Claim7 := { stood := { row := harmonicBackRow, standIns := [], harness := (true, "dac6e2594a1211170c8551bb1a96fc7f2499236f899bb7518af60ecf2b1050c1"), looks := false }, kinds := [], alts := [], laidByText := true, laidKinds := [.data, .data, .data, .data, .data, .pinned], laidTests := true, laidLooks := .later }
def HarmonicBackCardSaid : Prop := Claim7.holds Tryz.pinned (.plain (OpenSpec.ofChange harmonicBackSpec)) harmonicBackCard

/-- THE SECOND FORM's CARD OF 'bipolelaw04.HarmonicSums'. -/
def harmonicSumsUptoCard : Claim7 := { stood := { row := harmonicSumsUptoRow, standIns := [], harness := (true, "dac6e2594a1211170c8551bb1a96fc7f2499236f899bb7518af60ecf2b1050c1"), looks := false }, kinds := [], alts := [], laidByText := true, laidKinds := [.data, .data, .data, .data], laidTests := true, laidLooks := .later }
def HarmonicSumsUptoCardSaid : Prop := Claim7.holds Tryz.pinned (.plain (OpenSpec.upto harmonicSumsSpec)) harmonicSumsUptoCard

/-- THE SECOND FORM's CARD OF 'bipolelaw04.HarmonicRecords'. -/
def harmonicRecordsUptoCard : Claim7 := { stood := { row := harmonicRecordsUptoRow, standIns := [], harness := (true, "dac6e2594a1211170c8551bb1a96fc7f2499236f899bb7518af60ecf2b1050c1"), looks := false }, kinds := [], alts := [], laidByText := true, laidKinds := [.data, .data, .data, .data], laidTests := true, laidLooks := .later }
def HarmonicRecordsUptoCardSaid : Prop := Claim7.holds Tryz.pinned (.plain (OpenSpec.upto harmonicRecordsSpec)) harmonicRecordsUptoCard

/-- THE SECOND FORM's CARD OF 'bipolelaw04.HarmonicTexts'. -/
def harmonicTextsUptoCard : Claim7 := { stood := { row := harmonicTextsUptoRow, standIns := [], harness := (true, "dac6e2594a1211170c8551bb1a96fc7f2499236f899bb7518af60ecf2b1050c1"), looks := false }, kinds := [], alts := [], laidByText := true, laidKinds := [.data, .data, .data, .data, .data, .pinned], laidTests := true, laidLooks := .later }
def HarmonicTextsUptoCardSaid : Prop := Claim7.holds Tryz.pinned (.plain (OpenSpec.upto harmonicTextsSpec)) harmonicTextsUptoCard

/-- THE SECOND FORM's CARD OF 'bipolelaw04.HarmonicBack'. -/
def harmonicBackUptoCard : Claim7 := { stood := { row := harmonicBackUptoRow, standIns := [], harness := (true, "dac6e2594a1211170c8551bb1a96fc7f2499236f899bb7518af60ecf2b1050c1"), looks := false }, kinds := [], alts := [], laidByText := true, laidKinds := [.data, .data, .data, .data, .data, .pinned], laidTests := true, laidLooks := .later }
def HarmonicBackUptoCardSaid : Prop := Claim7.holds Tryz.pinned (.plain (OpenSpec.upto harmonicBackSpec)) harmonicBackUptoCard
end Rows
end Go.Proofs.YtoihfmndhfnmmaaGreatDoor

/-
  DERIVED. GIVEN WITH THE SEED: THE CARDS: each row of YtnlmaildmeihgaaGreatDoorRows.lean that lists a variable, with what it lists TIED to the program's text (the seventh form; the later family's looks); each row that meets fmt, with fmt's text TOLD by the authors' own Lean function (tested against real Go, not proved from fmt's source: count such statements apart). THE CARD IS WHAT COUNTS. Prove the row's statement (the work); the ties are given (YtnlmaildmeihgaaGreatDoorTie.lean); close each card by the builder's one call (the guide's Derived/Test/ToyasCard.lean, 'card_holds'). Laid BY PROGRAM, IN A SANDBOX (cutbox-door.mjs). By AI agents, Wed Nov 11 2026. No macro, syntax, notation, axiom, sorry.
-/
import Derived.Test.YtnlmaildmeihgaaGreatDoorRows
import GoSem.ClaimSeven
namespace Go.Proofs.YtnlmaildmeihgaaGreatDoor
namespace Rows

/-- THE TIED CARD OF 'bipolelaw03.LoopScales'. -/
def loopScalesCard : Claim7 := { stood := { row := loopScalesRow, standIns := [], harness := (true, "2d7be2c99e0785c11df1edcb99264260544e5a26fe5cf6eab9ef98df0922c00a"), looks := true }, kinds := [], alts := [], laidByText := true, laidKinds := [.data, .data, .data, .data], laidTests := true, laidLooks := .later }
def LoopScalesCardSaid : Prop := Claim7.holds Tryz.pinned (.plain (OpenSpec.ofChange loopScalesSpec)) loopScalesCard

/-- THE TIED CARD OF 'bipolelaw03.LoopLoops'. -/
def loopLoopsCard : Claim7 := { stood := { row := loopLoopsRow, standIns := [], harness := (true, "2d7be2c99e0785c11df1edcb99264260544e5a26fe5cf6eab9ef98df0922c00a"), looks := true }, kinds := [], alts := [], laidByText := true, laidKinds := [.data, .data, .data, .data], laidTests := true, laidLooks := .later }
def LoopLoopsCardSaid : Prop := Claim7.holds Tryz.pinned (.plain (OpenSpec.ofChange loopLoopsSpec)) loopLoopsCard

/-- THE TIED CARD OF 'bipolelaw03.LoopBoxes'. -/
def loopBoxesCard : Claim7 := { stood := { row := loopBoxesRow, standIns := [], harness := (true, "2d7be2c99e0785c11df1edcb99264260544e5a26fe5cf6eab9ef98df0922c00a"), looks := true }, kinds := [], alts := [], laidByText := true, laidKinds := [.data, .data, .data, .data], laidTests := true, laidLooks := .later }
def LoopBoxesCardSaid : Prop := Claim7.holds Tryz.pinned (.plain (OpenSpec.ofChange loopBoxesSpec)) loopBoxesCard

/-- THE TIED CARD OF 'bipolelaw03.LoopSteps'. -/
def loopStepsCard : Claim7 := { stood := { row := loopStepsRow, standIns := [], harness := (true, "2d7be2c99e0785c11df1edcb99264260544e5a26fe5cf6eab9ef98df0922c00a"), looks := true }, kinds := [], alts := [], laidByText := true, laidKinds := [.data, .data, .data, .data], laidTests := true, laidLooks := .later }
def LoopStepsCardSaid : Prop := Claim7.holds Tryz.pinned (.plain (OpenSpec.ofChange loopStepsSpec)) loopStepsCard

/-- THE TIED CARD OF 'bipolelaw03.LoopRings'. -/
def loopRingsCard : Claim7 := { stood := { row := loopRingsRow, standIns := [], harness := (true, "2d7be2c99e0785c11df1edcb99264260544e5a26fe5cf6eab9ef98df0922c00a"), looks := true }, kinds := [], alts := [], laidByText := true, laidKinds := [.data, .data, .data, .data], laidTests := true, laidLooks := .later }
def LoopRingsCardSaid : Prop := Claim7.holds Tryz.pinned (.plain (OpenSpec.ofChange loopRingsSpec)) loopRingsCard

/-- THE TIED CARD OF 'bipolelaw03.LoopMade'. -/
def loopMadeCard : Claim7 := { stood := { row := loopMadeRow, standIns := [], harness := (true, "2d7be2c99e0785c11df1edcb99264260544e5a26fe5cf6eab9ef98df0922c00a"), looks := true }, kinds := [], alts := [], laidByText := true, laidKinds := [.data, .data, .data, .data], laidTests := true, laidLooks := .later }
def LoopMadeCardSaid : Prop := Claim7.holds Tryz.pinned (.plain (OpenSpec.ofChange loopMadeSpec)) loopMadeCard

/-- THE TIED CARD OF 'bipolelaw03.LoopWhole'. -/
def loopWholeCard : Claim7 := { stood := { row := loopWholeRow, standIns := [], harness := (true, "2d7be2c99e0785c11df1edcb99264260544e5a26fe5cf6eab9ef98df0922c00a"), looks := true }, kinds := [], alts := [], laidByText := true, laidKinds := [.data, .data, .data, .data], laidTests := true, laidLooks := .later }
def LoopWholeCardSaid : Prop := Claim7.holds Tryz.pinned (.plain (OpenSpec.ofChange loopWholeSpec)) loopWholeCard

/-- THE TIED CARD OF 'bipolelaw03.LoopCertified'. -/
def loopCertifiedCard : Claim7 := { stood := { row := loopCertifiedRow, standIns := [], harness := (true, "2d7be2c99e0785c11df1edcb99264260544e5a26fe5cf6eab9ef98df0922c00a"), looks := true }, kinds := [], alts := [], laidByText := true, laidKinds := [.data, .data, .data, .data], laidTests := true, laidLooks := .later }
def LoopCertifiedCardSaid : Prop := Claim7.holds Tryz.pinned (.plain (OpenSpec.ofChange loopCertifiedSpec)) loopCertifiedCard

/-- THE TIED CARD OF 'bipolelaw03.LoopFalls'. -/
def loopFallsCard : Claim7 := { stood := { row := loopFallsRow, standIns := [], harness := (true, "2d7be2c99e0785c11df1edcb99264260544e5a26fe5cf6eab9ef98df0922c00a"), looks := true }, kinds := [], alts := [], laidByText := true, laidKinds := [.data, .data, .data, .data], laidTests := true, laidLooks := .later }
def LoopFallsCardSaid : Prop := Claim7.holds Tryz.pinned (.plain (OpenSpec.ofChange loopFallsSpec)) loopFallsCard

/-- THE TIED CARD OF 'bipolelaw03.LoopSums'. -/
def loopSumsCard : Claim7 := { stood := { row := loopSumsRow, standIns := [], harness := (true, "2d7be2c99e0785c11df1edcb99264260544e5a26fe5cf6eab9ef98df0922c00a"), looks := true }, kinds := [], alts := [], laidByText := true, laidKinds := [.data, .data, .data, .data], laidTests := true, laidLooks := .later }
def LoopSumsCardSaid : Prop := Claim7.holds Tryz.pinned (.plain (OpenSpec.ofChange loopSumsSpec)) loopSumsCard

/-- THE TIED CARD OF 'bipolelaw03.LoopPolys'. -/
def loopPolysCard : Claim7 := { stood := { row := loopPolysRow, standIns := [], harness := (true, "2d7be2c99e0785c11df1edcb99264260544e5a26fe5cf6eab9ef98df0922c00a"), looks := true }, kinds := [], alts := [], laidByText := true, laidKinds := [.data, .data, .data, .data], laidTests := true, laidLooks := .later }
def LoopPolysCardSaid : Prop := Claim7.holds Tryz.pinned (.plain (OpenSpec.ofChange loopPolysSpec)) loopPolysCard

/-- THE TIED CARD OF 'bipolelaw03.LoopTables'. -/
def loopTablesCard : Claim7 := { stood := { row := loopTablesRow, standIns := [], harness := (true, "2d7be2c99e0785c11df1edcb99264260544e5a26fe5cf6eab9ef98df0922c00a"), looks := true }, kinds := [], alts := [], laidByText := true, laidKinds := [.data, .data, .data, .data], laidTests := true, laidLooks := .later }
def LoopTablesCardSaid : Prop := Claim7.holds Tryz.pinned (.plain (OpenSpec.ofChange loopTablesSpec)) loopTablesCard

/-- THE TIED CARD OF 'bipolelaw03.LoopRoots'. -/
def loopRootsCard : Claim7 := { stood := { row := loopRootsRow, standIns := [], harness := (true, "2d7be2c99e0785c11df1edcb99264260544e5a26fe5cf6eab9ef98df0922c00a"), looks := true }, kinds := [], alts := [], laidByText := true, laidKinds := [.data, .data, .data, .data], laidTests := true, laidLooks := .later }
def LoopRootsCardSaid : Prop := Claim7.holds Tryz.pinned (.plain (OpenSpec.ofChange loopRootsSpec)) loopRootsCard

/-- THE TIED CARD OF 'bipolelaw03.LoopTexts'. -/
def loopTextsCard : Claim7 := { stood := { row := loopTextsRow, standIns := [], harness := (true, "2d7be2c99e0785c11df1edcb99264260544e5a26fe5cf6eab9ef98df0922c00a"), looks := true }, kinds := [], alts := [], laidByText := true, laidKinds := [.data, .data, .data, .data, .sentinel, .sentinel, .data, .pinned], laidTests := true, laidLooks := .later }
def LoopTextsCardSaid : Prop := Claim7.holds Tryz.pinned (.plain (OpenSpec.ofChange loopTextsSpec)) loopTextsCard

/-- THE TIED CARD OF 'bipolelaw03.LoopBack'. -/
def loopBackCard : Claim7 := { stood := { row := loopBackRow, standIns := [], harness := (true, "2d7be2c99e0785c11df1edcb99264260544e5a26fe5cf6eab9ef98df0922c00a"), looks := true }, kinds := [], alts := [], laidByText := true, laidKinds := [.data, .data, .data, .data, .sentinel, .sentinel, .data, .pinned], laidTests := true, laidLooks := .later }
def LoopBackCardSaid : Prop := Claim7.holds Tryz.pinned (.plain (OpenSpec.ofChange loopBackSpec)) loopBackCard

/-- THE SECOND FORM's CARD OF 'bipolelaw03.LoopScales'. -/
def loopScalesUptoCard : Claim7 := { stood := { row := loopScalesUptoRow, standIns := [], harness := (true, "2d7be2c99e0785c11df1edcb99264260544e5a26fe5cf6eab9ef98df0922c00a"), looks := true }, kinds := [], alts := [], laidByText := true, laidKinds := [.data, .data, .data, .data], laidTests := true, laidLooks := .later }
def LoopScalesUptoCardSaid : Prop := Claim7.holds Tryz.pinned (.plain (OpenSpec.upto loopScalesSpec)) loopScalesUptoCard

/-- THE SECOND FORM's CARD OF 'bipolelaw03.LoopLoops'. -/
def loopLoopsUptoCard : Claim7 := { stood := { row := loopLoopsUptoRow, standIns := [], harness := (true, "2d7be2c99e0785c11df1edcb99264260544e5a26fe5cf6eab9ef98df0922c00a"), looks := true }, kinds := [], alts := [], laidByText := true, laidKinds := [.data, .data, .data, .data], laidTests := true, laidLooks := .later }
def LoopLoopsUptoCardSaid : Prop := Claim7.holds Tryz.pinned (.plain (OpenSpec.upto loopLoopsSpec)) loopLoopsUptoCard

/-- THE SECOND FORM's CARD OF 'bipolelaw03.LoopBoxes'. -/
def loopBoxesUptoCard : Claim7 := { stood := { row := loopBoxesUptoRow, standIns := [], harness := (true, "2d7be2c99e0785c11df1edcb99264260544e5a26fe5cf6eab9ef98df0922c00a"), looks := true }, kinds := [], alts := [], laidByText := true, laidKinds := [.data, .data, .data, .data], laidTests := true, laidLooks := .later }
def LoopBoxesUptoCardSaid : Prop := Claim7.holds Tryz.pinned (.plain (OpenSpec.upto loopBoxesSpec)) loopBoxesUptoCard

/-- THE SECOND FORM's CARD OF 'bipolelaw03.LoopSteps'. -/
def loopStepsUptoCard : Claim7 := { stood := { row := loopStepsUptoRow, standIns := [], harness := (true, "2d7be2c99e0785c11df1edcb99264260544e5a26fe5cf6eab9ef98df0922c00a"), looks := true }, kinds := [], alts := [], laidByText := true, laidKinds := [.data, .data, .data, .data], laidTests := true, laidLooks := .later }
def LoopStepsUptoCardSaid : Prop := Claim7.holds Tryz.pinned (.plain (OpenSpec.upto loopStepsSpec)) loopStepsUptoCard

/-- THE SECOND FORM's CARD OF 'bipolelaw03.LoopRings'. -/
def loopRingsUptoCard : Claim7 := { stood := { row := loopRingsUptoRow, standIns := [], harness := (true, "2d7be2c99e0785c11df1edcb99264260544e5a26fe5cf6eab9ef98df0922c00a"), looks := true }, kinds := [], alts := [], laidByText := true, laidKinds := [.data, .data, .data, .data], laidTests := true, laidLooks := .later }
def LoopRingsUptoCardSaid : Prop := Claim7.holds Tryz.pinned (.plain (OpenSpec.upto loopRingsSpec)) loopRingsUptoCard

/-- THE SECOND FORM's CARD OF 'bipolelaw03.LoopMade'. -/
def loopMadeUptoCard : Claim7 := { stood := { row := loopMadeUptoRow, standIns := [], harness := (true, "2d7be2c99e0785c11df1edcb99264260544e5a26fe5cf6eab9ef98df0922c00a"), looks := true }, kinds := [], alts := [], laidByText := true, laidKinds := [.data, .data, .data, .data], laidTests := true, laidLooks := .later }
def LoopMadeUptoCardSaid : Prop := Claim7.holds Tryz.pinned (.plain (OpenSpec.upto loopMadeSpec)) loopMadeUptoCard

/-- THE SECOND FORM's CARD OF 'bipolelaw03.LoopWhole'. -/
def loopWholeUptoCard : Claim7 := { stood := { row := loopWholeUptoRow, standIns := [], harness := (true, "2d7be2c99e0785c11df1edcb99264260544e5a26fe5cf6eab9ef98df0922c00a"), looks := true }, kinds := [], alts := [], laidByText := true, laidKinds := [.data, .data, .data, .data], laidTests := true, laidLooks := .later }
def LoopWholeUptoCardSaid : Prop := Claim7.holds Tryz.pinned (.plain (OpenSpec.upto loopWholeSpec)) loopWholeUptoCard

/-- THE SECOND FORM's CARD OF 'bipolelaw03.LoopCertified'. -/
def loopCertifiedUptoCard : Claim7 := { stood := { row := loopCertifiedUptoRow, standIns := [], harness := (true, "2d7be2c99e0785c11df1edcb99264260544e5a26fe5cf6eab9ef98df0922c00a"), looks := true }, kinds := [], alts := [], laidByText := true, laidKinds := [.data, .data, .data, .data], laidTests := true, laidLooks := .later }
def LoopCertifiedUptoCardSaid : Prop := Claim7.holds Tryz.pinned (.plain (OpenSpec.upto loopCertifiedSpec)) loopCertifiedUptoCard

/-- THE SECOND FORM's CARD OF 'bipolelaw03.LoopFalls'. -/
def loopFallsUptoCard : Claim7 := { stood := { row := loopFallsUptoRow, standIns := [], harness := (true, "2d7be2c99e0785c11df1edcb99264260544e5a26fe5cf6eab9ef98df0922c00a"), looks := true }, kinds := [], alts := [], laidByText := true, laidKinds := [.data, .data, .data, .data], laidTests := true, laidLooks := .later }
def LoopFallsUptoCardSaid : Prop := Claim7.holds Tryz.pinned (.plain (OpenSpec.upto loopFallsSpec)) loopFallsUptoCard

/-- THE SECOND FORM's CARD OF 'bipolelaw03.LoopSums'. -/
def loopSumsUptoCard : Claim7 := { stood := { row := loopSumsUptoRow, standIns := [], harness := (true, "2d7be2c99e0785c11df1edcb99264260544e5a26fe5cf6eab9ef98df0922c00a"), looks := true }, kinds := [], alts := [], laidByText := true, laidKinds := [.data, .data, .data, .data], laidTests := true, laidLooks := .later }
def LoopSumsUptoCardSaid : Prop := Claim7.holds Tryz.pinned (.plain (OpenSpec.upto loopSumsSpec)) loopSumsUptoCard

/-- THE SECOND FORM's CARD OF 'bipolelaw03.LoopPolys'. -/
def loopPolysUptoCard : Claim7 := { stood := { row := loopPolysUptoRow, standIns := [], harness := (true, "2d7be2c99e0785c11df1edcb99264260544e5a26fe5cf6eab9ef98df0922c00a"), looks := true }, kinds := [], alts := [], laidByText := true, laidKinds := [.data, .data, .data, .data], laidTests := true, laidLooks := .later }
def LoopPolysUptoCardSaid : Prop := Claim7.holds Tryz.pinned (.plain (OpenSpec.upto loopPolysSpec)) loopPolysUptoCard

/-- THE SECOND FORM's CARD OF 'bipolelaw03.LoopTables'. -/
def loopTablesUptoCard : Claim7 := { stood := { row := loopTablesUptoRow, standIns := [], harness := (true, "2d7be2c99e0785c11df1edcb99264260544e5a26fe5cf6eab9ef98df0922c00a"), looks := true }, kinds := [], alts := [], laidByText := true, laidKinds := [.data, .data, .data, .data], laidTests := true, laidLooks := .later }
def LoopTablesUptoCardSaid : Prop := Claim7.holds Tryz.pinned (.plain (OpenSpec.upto loopTablesSpec)) loopTablesUptoCard

/-- THE SECOND FORM's CARD OF 'bipolelaw03.LoopRoots'. -/
def loopRootsUptoCard : Claim7 := { stood := { row := loopRootsUptoRow, standIns := [], harness := (true, "2d7be2c99e0785c11df1edcb99264260544e5a26fe5cf6eab9ef98df0922c00a"), looks := true }, kinds := [], alts := [], laidByText := true, laidKinds := [.data, .data, .data, .data], laidTests := true, laidLooks := .later }
def LoopRootsUptoCardSaid : Prop := Claim7.holds Tryz.pinned (.plain (OpenSpec.upto loopRootsSpec)) loopRootsUptoCard

/-- THE SECOND FORM's CARD OF 'bipolelaw03.LoopTexts'. -/
def loopTextsUptoCard : Claim7 := { stood := { row := loopTextsUptoRow, standIns := [], harness := (true, "2d7be2c99e0785c11df1edcb99264260544e5a26fe5cf6eab9ef98df0922c00a"), looks := true }, kinds := [], alts := [], laidByText := true, laidKinds := [.data, .data, .data, .data, .sentinel, .sentinel, .data, .pinned], laidTests := true, laidLooks := .later }
def LoopTextsUptoCardSaid : Prop := Claim7.holds Tryz.pinned (.plain (OpenSpec.upto loopTextsSpec)) loopTextsUptoCard

/-- THE SECOND FORM's CARD OF 'bipolelaw03.LoopBack'. -/
def loopBackUptoCard : Claim7 := { stood := { row := loopBackUptoRow, standIns := [], harness := (true, "2d7be2c99e0785c11df1edcb99264260544e5a26fe5cf6eab9ef98df0922c00a"), looks := true }, kinds := [], alts := [], laidByText := true, laidKinds := [.data, .data, .data, .data, .sentinel, .sentinel, .data, .pinned], laidTests := true, laidLooks := .later }
def LoopBackUptoCardSaid : Prop := Claim7.holds Tryz.pinned (.plain (OpenSpec.upto loopBackSpec)) loopBackUptoCard
end Rows
end Go.Proofs.YtnlmaildmeihgaaGreatDoor

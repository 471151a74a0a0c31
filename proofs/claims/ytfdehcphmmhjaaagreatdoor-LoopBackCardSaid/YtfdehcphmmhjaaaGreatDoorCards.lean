/-
  DERIVED. GIVEN WITH THE SEED: THE CARDS: each row of YtfdehcphmmhjaaaGreatDoorRows.lean that lists a variable, with what it lists TIED to the program's text (the seventh form; the later family's looks); each row that meets fmt, with fmt's text TOLD by the authors' own Lean function (tested against real Go, not proved from fmt's source: count such statements apart). THE CARD IS WHAT COUNTS. Prove the row's statement (the work); the ties are given (YtfdehcphmmhjaaaGreatDoorTie.lean); close each card by the builder's one call (the guide's Derived/Test/ToyasCard.lean, 'card_holds'). Laid BY PROGRAM, IN A SANDBOX (cutbox-door.mjs). By AI agents, Wed Nov 11 2026. No macro, syntax, notation, axiom, sorry.
-/
import Derived.Test.YtfdehcphmmhjaaaGreatDoorRows
import GoSem.ClaimSeven
namespace Go.Proofs.YtfdehcphmmhjaaaGreatDoor
namespace Rows

/-- THE TIED CARD OF 'bipolelaw03.LoopTexts'. -/
def loopTextsCard : Claim7 := { stood := { row := loopTextsRow, standIns := [], harness := (true, "2e61ede09d91902b2da6100db15a3b65e7c2403ff44e4a66924e0f2b6cecbaab"), looks := true }, kinds := [], alts := [], laidByText := true, laidKinds := [.data, .data, .data, .data, .sentinel, .sentinel, .data, .pinned], laidTests := true, laidLooks := .later }
def LoopTextsCardSaid : Prop := Claim7.holds Tryz.pinned (.plain (OpenSpec.ofChange loopTextsSpec)) loopTextsCard

/-- THE TIED CARD OF 'bipolelaw03.LoopBack'. -/
def loopBackCard : Claim7 := { stood := { row := loopBackRow, standIns := [], harness := (true, "2e61ede09d91902b2da6100db15a3b65e7c2403ff44e4a66924e0f2b6cecbaab"), looks := true }, kinds := [], alts := [], laidByText := true, laidKinds := [.data, .data, .data, .data, .sentinel, .sentinel, .data, .pinned], laidTests := true, laidLooks := .later }
def LoopBackCardSaid : Prop := Claim7.holds Tryz.pinned (.plain (OpenSpec.ofChange loopBackSpec)) loopBackCard

/-- THE SECOND FORM's CARD OF 'bipolelaw03.LoopTexts'. -/
def loopTextsUptoCard : Claim7 := { stood := { row := loopTextsUptoRow, standIns := [], harness := (true, "2e61ede09d91902b2da6100db15a3b65e7c2403ff44e4a66924e0f2b6cecbaab"), looks := true }, kinds := [], alts := [], laidByText := true, laidKinds := [.data, .data, .data, .data, .sentinel, .sentinel, .data, .pinned], laidTests := true, laidLooks := .later }
def LoopTextsUptoCardSaid : Prop := Claim7.holds Tryz.pinned (.plain (OpenSpec.upto loopTextsSpec)) loopTextsUptoCard

/-- THE SECOND FORM's CARD OF 'bipolelaw03.LoopBack'. -/
def loopBackUptoCard : Claim7 := { stood := { row := loopBackUptoRow, standIns := [], harness := (true, "2e61ede09d91902b2da6100db15a3b65e7c2403ff44e4a66924e0f2b6cecbaab"), looks := true }, kinds := [], alts := [], laidByText := true, laidKinds := [.data, .data, .data, .data, .sentinel, .sentinel, .data, .pinned], laidTests := true, laidLooks := .later }
def LoopBackUptoCardSaid : Prop := Claim7.holds Tryz.pinned (.plain (OpenSpec.upto loopBackSpec)) loopBackUptoCard
end Rows
end Go.Proofs.YtfdehcphmmhjaaaGreatDoor

/-
  DERIVED. GIVEN WITH THE SEED: THE CARDS: each row of YtpkaoechbmbolaaGreatDoorRows.lean that lists a variable, with what it lists TIED to the program's text (the seventh form; the later family's looks); each row that meets fmt, with fmt's text TOLD by the authors' own Lean function (tested against real Go, not proved from fmt's source: count such statements apart). THE CARD IS WHAT COUNTS. Prove the row's statement (the work); the ties are given (YtpkaoechbmbolaaGreatDoorTie.lean); close each card by the builder's one call (the guide's Derived/Test/ToyasCard.lean, 'card_holds'). Laid BY PROGRAM, IN A SANDBOX (cutbox-door.mjs). By AI agents, Wed Nov 11 2026. No macro, syntax, notation, axiom, sorry.
-/
import Derived.Test.YtpkaoechbmbolaaGreatDoorRows
import GoSem.ClaimSeven
namespace Go.Proofs.YtpkaoechbmbolaaGreatDoor
namespace Rows

/-- THE TIED CARD OF 'bipoletop.TopShackleTapped'. -/
def topShackleTappedCard : Claim7 := { stood := { row := topShackleTappedRow, standIns := [], harness := (true, "6f530cfacdf76bbfabc9cdf587017bfe4b09a2b991eea2da3375fc197d8602cf"), looks := false }, kinds := [], alts := [], laidByText := true, laidKinds := [.data], laidTests := true, laidLooks := .later }
def TopShackleTappedCardSaid : Prop := Claim7.holds Tryz.pinned (.plain (OpenSpec.ofChange topShackleTappedSpec)) topShackleTappedCard

/-- THE SECOND FORM's CARD OF 'bipoletop.TopShackleTapped'. -/
def topShackleTappedUptoCard : Claim7 := { stood := { row := topShackleTappedUptoRow, standIns := [], harness := (true, "6f530cfacdf76bbfabc9cdf587017bfe4b09a2b991eea2da3375fc197d8602cf"), looks := false }, kinds := [], alts := [], laidByText := true, laidKinds := [.data], laidTests := true, laidLooks := .later }
def TopShackleTappedUptoCardSaid : Prop := Claim7.holds Tryz.pinned (.plain (OpenSpec.upto topShackleTappedSpec)) topShackleTappedUptoCard
end Rows
end Go.Proofs.YtpkaoechbmbolaaGreatDoor

/-
  DERIVED. GIVEN WITH THE SEED: THE CARDS: each row of YtjmdnolmaofbiaaDoorRows.lean that lists a variable, with what it lists TIED to the program's text (the seventh form; the later family's looks); each row that meets fmt, with fmt's text TOLD by the authors' own Lean function (tested against real Go, not proved from fmt's source: count such statements apart). THE CARD IS WHAT COUNTS. Prove the row's statement (the work); the ties are given (YtjmdnolmaofbiaaDoorTie.lean); close each card by the builder's one call (the guide's Derived/Test/ToyasCard.lean, 'card_holds'). Laid BY PROGRAM, IN A SANDBOX (cutbox-door.mjs). By AI agents, Wed Nov 11 2026. No macro, syntax, notation, axiom, sorry.
-/
import Derived.Test.YtjmdnolmaofbiaaDoorRows
import GoSem.ClaimSeven
namespace Go.Proofs.YtjmdnolmaofbiaaDoor
namespace Rows

/-- THE TIED CARD OF 'bipoletop.TopThimbleTelegrams'. -/
def topThimbleTelegramsCard : Claim7 := { stood := { row := topThimbleTelegramsRow, standIns := [], harness := (true, "428b9ed1e1e50035585958fac147d6aa0ed1ebf1f3c2d0437e4a9124af793f94"), looks := false }, kinds := [], alts := [], laidByText := true, laidKinds := [.wider, .wider], laidTests := true, laidLooks := .later }
def TopThimbleTelegramsCardSaid : Prop := Claim7.holds Tryd.pinned (.plain (OpenSpec.ofChange topThimbleTelegramsSpec)) topThimbleTelegramsCard

/-- THE SECOND FORM's CARD OF 'bipoletop.TopThimbleTelegrams'. -/
def topThimbleTelegramsUptoCard : Claim7 := { stood := { row := topThimbleTelegramsUptoRow, standIns := [], harness := (true, "428b9ed1e1e50035585958fac147d6aa0ed1ebf1f3c2d0437e4a9124af793f94"), looks := false }, kinds := [], alts := [], laidByText := true, laidKinds := [.wider, .wider], laidTests := true, laidLooks := .later }
def TopThimbleTelegramsUptoCardSaid : Prop := Claim7.holds Tryd.pinned (.plain (OpenSpec.upto topThimbleTelegramsSpec)) topThimbleTelegramsUptoCard
end Rows
end Go.Proofs.YtjmdnolmaofbiaaDoor

/- The package harmonic: the edges that separate; Edge. -/
import Derived.Test.YtpkaoechbmbolaaGreatDoorHpA
namespace Go.Proofs.YtpkaoechbmbolaaGreatDoor
set_option linter.unusedSimpArgs false
set_option linter.unusedVariables false
open Go.RowKit

/-- an edge separates. -/
def sepB (x : I4) (ls : List (Int × Int)) (h : Int) : Bool := bif tunedB ls h then true else negB (sideE x (0, negI (susR ls h).1) (susR ls h).2)
def edgL (ls l : List (Int × Int)) (h : Int) : Int := findX (fun x => sepB x ls h) (edgesL l)
/-- what Edge returns. -/
def edgR (ls l : List (Int × Int)) (h : Int) : Int × Int := bif meeE ls l h == 0 then (bif negB (edgL ls l h) then (0, 7) else (edgL ls l h, 0)) else (0, meeE ls l h)
end Go.Proofs.YtpkaoechbmbolaaGreatDoor

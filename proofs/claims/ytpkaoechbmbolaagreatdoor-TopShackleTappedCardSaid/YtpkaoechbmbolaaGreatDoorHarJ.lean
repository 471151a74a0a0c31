/- The package harmonic: orders in excess, quarter patterns. -/
import Derived.Test.YtpkaoechbmbolaaGreatDoorHarI
namespace Go.Proofs.YtpkaoechbmbolaaGreatDoor
set_option linter.unusedSimpArgs false
set_option linter.unusedVariables false
open Go.RowKit

def excL (l lim : List Int) : List Int := chosenL (fun h => excB l lim h.toNat) 2 5
/-- the numbers that are compared are small. -/
def SmallP (l lim : List Int) : Prop := ∀ h : Nat, 2 ≤ h → h < 7 → Small (scR 256 (stC (orderC l h)) (lim[h]?.getD 0) (stC (orderC l 1)))
def excE (l lim : List Int) : Int := firstE [patE l, limE lim]
end Go.Proofs.YtpkaoechbmbolaaGreatDoor

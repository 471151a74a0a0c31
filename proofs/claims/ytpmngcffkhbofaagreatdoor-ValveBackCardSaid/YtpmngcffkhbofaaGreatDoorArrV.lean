/- An array of integers that came in: the numbers of the kind. -/
import Derived.Test.YtpmngcffkhbofaaGreatDoorVaA
import Derived.ProofKit
import Derived.OpenShut
import Derived.ChangeOld
namespace Go.Proofs.YtpmngcffkhbofaaGreatDoor
open Go.ChangeShapes Go.WideShapes Go.ChangeAt Go.RowKit
end Go.Proofs.YtpmngcffkhbofaaGreatDoor

/- The reference: SameTelegrams, Same (at equal arguments). -/
import Derived.Test.YtpmngcffkhbofaaGreatDoorVfF
namespace Go.Proofs.YtpmngcffkhbofaaGreatDoor
set_option linter.unusedSimpArgs false
set_option linter.unusedVariables false
open Go.RowKit
end Go.Proofs.YtpmngcffkhbofaaGreatDoor

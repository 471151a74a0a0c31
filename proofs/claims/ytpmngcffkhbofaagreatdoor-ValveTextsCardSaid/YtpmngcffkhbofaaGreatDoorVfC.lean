/- The law's conversions of telegrams. (printed by gen/valEB.py) -/
import Derived.Test.YtpmngcffkhbofaaGreatDoorVeE
namespace Go.Proofs.YtpmngcffkhbofaaGreatDoor
section
set_option linter.unusedSimpArgs false
set_option linter.unusedVariables false
open Go.RowKit
end
section
set_option linter.unusedSimpArgs false
set_option linter.unusedVariables false
open Go.RowKit
end
section
set_option linter.unusedSimpArgs false
set_option linter.unusedVariables false
open Go.RowKit
end
end Go.Proofs.YtpmngcffkhbofaaGreatDoor

/- The reference of chapter 1: CheckTelegram, CheckTelegrams. (UNDER WAY) -/
import Derived.Test.YtpmngcffkhbofaaGreatDoorVfC
namespace Go.Proofs.YtpmngcffkhbofaaGreatDoor
section
set_option linter.unusedSimpArgs false
set_option linter.unusedVariables false
open Go.RowKit
end
section
set_option linter.unusedSimpArgs false
set_option linter.unusedVariables false
open Go.RowKit
end
section
set_option linter.unusedSimpArgs false
set_option linter.unusedVariables false
open Go.RowKit
end
end Go.Proofs.YtpmngcffkhbofaaGreatDoor

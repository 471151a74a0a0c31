/- The reference of chapter 7: At, Differ, Possible, ChangeOver. -/
import Derived.Test.YtjcmohfpenfepaaGreatDoorVeB
namespace Go.Proofs.YtjcmohfpenfepaaGreatDoor
section
set_option linter.unusedSimpArgs false
set_option linter.unusedVariables false
open Go.RowKit
end
section
set_option linter.unusedSimpArgs false
set_option linter.unusedVariables false
open Go.RowKit
end
section
set_option linter.unusedSimpArgs false
set_option linter.unusedVariables false
open Go.RowKit
end
end Go.Proofs.YtjcmohfpenfepaaGreatDoor

/- The reference of chapter 7: Bumps. -/
import Derived.Test.YtjcmohfpenfepaaGreatDoorVdB
namespace Go.Proofs.YtjcmohfpenfepaaGreatDoor
section
set_option linter.unusedSimpArgs false
set_option linter.unusedVariables false
open Go.RowKit
end
section
set_option linter.unusedSimpArgs false
set_option linter.unusedVariables false
open Go.RowKit
end
section
set_option linter.unusedSimpArgs false
set_option linter.unusedVariables false
open Go.RowKit
end
end Go.Proofs.YtjcmohfpenfepaaGreatDoor

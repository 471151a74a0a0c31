/- Valves as bits: the plain facts of the reference's halving and of the program's bits. -/
import Derived.Test.YtjcmohfpenfepaaGreatDoorVbP
namespace Go.Proofs.YtjcmohfpenfepaaGreatDoor
section
set_option linter.unusedSimpArgs false
set_option linter.unusedVariables false
open Go.RowKit
end
section
set_option linter.unusedSimpArgs false
set_option linter.unusedVariables false
open Go.RowKit
end
end Go.Proofs.YtjcmohfpenfepaaGreatDoor

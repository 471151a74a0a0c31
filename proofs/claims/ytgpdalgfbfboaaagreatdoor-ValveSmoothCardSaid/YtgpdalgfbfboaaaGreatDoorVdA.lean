/- Valves as bits: the plain facts of the reference's halving and of the program's bits. -/
import Derived.Test.YtgpdalgfbfboaaaGreatDoorVbP
namespace Go.Proofs.YtgpdalgfbfboaaaGreatDoor
set_option linter.unusedSimpArgs false
set_option linter.unusedVariables false
open Go.RowKit
end Go.Proofs.YtgpdalgfbfboaaaGreatDoor

/- Wear as words: numbers, equal to themselves. -/
import Derived.Test.YtjcmohfpenfepaaGreatDoorVcN
namespace Go.Proofs.YtjcmohfpenfepaaGreatDoor
section
set_option linter.unusedSimpArgs false
set_option linter.unusedVariables false
open Go.RowKit Flp
end
section
set_option linter.unusedSimpArgs false
set_option linter.unusedVariables false
open Go.RowKit Flp
end
end Go.Proofs.YtjcmohfpenfepaaGreatDoor

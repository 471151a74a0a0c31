/- The reference of chapter 4: small functions. -/
import Derived.Test.YtpkaoechbmbolaaGreatDoorHarF
namespace Go.Proofs.YtpkaoechbmbolaaGreatDoor
set_option linter.unusedSimpArgs false
set_option linter.unusedVariables false
open Go.RowKit

end Go.Proofs.YtpkaoechbmbolaaGreatDoor

/- The package harmonic: Product, Strength, Sign. -/
import Derived.Test.YtpkaoechbmbolaaGreatDoorHarC
namespace Go.Proofs.YtpkaoechbmbolaaGreatDoor
set_option linter.unusedSimpArgs false
set_option linter.unusedVariables false
open Go.RowKit

def prodCE (x0 x1 x2 x3 y0 y1 y2 y3 : Int) : Int := firstE [cycE x0 x1 x2 x3, cycE y0 y1 y2 y3]
/-- four numbers, or none if there is an error. -/
def cyOr (e a b c d : Int) : Value := if e = 0 then .agg #[.int .i64 a, .int .i64 b, .int .i64 c, .int .i64 d] else .agg #[.int .i64 0, .int .i64 0, .int .i64 0, .int .i64 0]

end Go.Proofs.YtpkaoechbmbolaaGreatDoor

/- Words that all texts of this family use: a slice value that holds known integers in a world. -/
import Derived.WalkKit
import Derived.WalkSpells
import Derived.WalkLawsBesides
import Derived.Lib.Hide
import Derived.Deep.OwnRows
import Derived.Test.YtipmjjnhdjcoiaaVaA
namespace Go.Proofs.Ytipmjjnhdjcoiaa
open Go.RowKit

end Go.Proofs.Ytipmjjnhdjcoiaa

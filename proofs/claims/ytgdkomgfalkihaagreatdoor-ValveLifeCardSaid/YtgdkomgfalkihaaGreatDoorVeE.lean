/- The reference of chapter 7: At, Differ, Possible, ChangeOver. -/
import Derived.Test.YtgdkomgfalkihaaGreatDoorVeB
namespace Go.Proofs.YtgdkomgfalkihaaGreatDoor
section
set_option linter.unusedSimpArgs false
set_option linter.unusedVariables false
open Go.RowKit
end
section
set_option linter.unusedSimpArgs false
set_option linter.unusedVariables false
open Go.RowKit
end
section
set_option linter.unusedSimpArgs false
set_option linter.unusedVariables false
open Go.RowKit
theorem first2R (e0 e1 : Int) (G : Nat) (W : World) (h : BlkI W G 3 [e0, e1]) : Calls Tryz.prog 77 #[.slice (some ⟨G, 0, none⟩) 2 2] W fun r w' => r = .returned (.int .i64 (firstE [e0, e1])) ∧ W = w' :=
 FirstR_any _ _ W (by simp) (BlkI.ints h rfl)
end
end Go.Proofs.YtgdkomgfalkihaaGreatDoor

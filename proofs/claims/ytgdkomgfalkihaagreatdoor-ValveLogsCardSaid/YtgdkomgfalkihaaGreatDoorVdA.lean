/- Valves as bits: the plain facts of the reference's halving and of the program's bits. -/
import Derived.Test.YtgdkomgfalkihaaGreatDoorVbP
namespace Go.Proofs.YtgdkomgfalkihaaGreatDoor
set_option linter.unusedSimpArgs false
set_option linter.unusedVariables false
open Go.RowKit
theorem halfK_div {n : Int} (h : 0 ≤ n) (v : Nat) : halfK n v = n / 2 ^ v := by
 induction v with
 | zero => simp [halfK]
 | succ v ih =>
   simp only [halfK]
   rw [ih, Int.tdiv_eq_ediv_of_nonneg (Int.ediv_nonneg h (Int.le_of_lt (pow_pos2 v))), Int.ediv_ediv_of_nonneg (Int.le_of_lt (pow_pos2 v)), Int.pow_succ]
theorem hasR_bit {n : Int} (h : 0 ≤ n) (v : Nat) : hasR n v = decide (bitV n v = 1) := by
 unfold hasR bitV
 rw [halfK_div h, Int.tmod_eq_emod_of_nonneg (Int.ediv_nonneg h (Int.le_of_lt (pow_pos2 v)))]
 rw [Bool.eq_iff_iff]; simp
end Go.Proofs.YtgdkomgfalkihaaGreatDoor

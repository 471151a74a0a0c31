/- Plain facts on the loop of a plant of one pole and a controller that is a number. -/
import Derived.Test.YtnlmaildmeihgaaCertify
import Derived.Test.YtnlmaildmeihgaaWashSteps
namespace Go.Proofs.Ytnlmaildmeihgaa
open Go.RowKit

def cFact (den pole num g : Int) : Bool :=
  checkLoopE [g] [-pole, den] [num] [1] == 0 && closedW [g] [-pole, den] [num] [1] == [g * num - pole, den] && checkPolyE [g * num - pole, den] == 0 && !([g * num - pole, den].any largeB) &&
  (stableB [g * num - pole, den] == decide (max (g * num - pole) (-(g * num - pole)) < den)) && decide (-70 ≤ g * num - pole ∧ g * num - pole ≤ 70)

set_option maxRecDepth 100000 in
theorem cFact_all : ((List.range 9).all fun a => (List.range 19).all fun b => (List.range 3).all fun c => (List.range 19).all fun d => cFact ((a : Int) + 1) ((b : Int) - 9) ((c : Int) + 1) ((d : Int) + 1)) = true := by decide +kernel

theorem cFact_of {den pole num g : Int} (h1 : 1 ≤ den ∧ den ≤ 9) (h2 : -9 ≤ pole ∧ pole ≤ 9) (h3 : 1 ≤ num ∧ num ≤ 3) (h4 : 1 ≤ g ∧ g ≤ 19) : cFact den pole num g = true := by
  have h := cFact_all
  simp only [List.all_eq_true, List.mem_range] at h
  have h5 := h (den - 1).toNat (by omega) (pole + 9).toNat (by omega) (num - 1).toNat (by omega) (g - 1).toNat (by omega)
  rw [show ((den - 1).toNat : Int) + 1 = den from by omega, show ((pole + 9).toNat : Int) - 9 = pole from by omega, show ((num - 1).toNat : Int) + 1 = num from by omega, show ((g - 1).toNat : Int) + 1 = g from by omega] at h5
  exact h5

end Go.Proofs.Ytnlmaildmeihgaa

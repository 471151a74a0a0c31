/- Plain facts on two polynomials of the degree 1 with small coefficients, and their product. -/
import Derived.Test.YtnlmaildmeihgaaRefA
namespace Go.Proofs.Ytnlmaildmeihgaa
open Go.RowKit

def mulP (p0 p1 q0 q1 : Int) : List Int := [p0 * q0, p0 * q1 + p1 * q0, p1 * q1]

/-- the four quarters. -/
def qrt : Nat → Int × Int
  | 0 => (1, 0)
  | 1 => (0, 1)
  | 2 => (-1, 0)
  | _ => (0, -1)

def factB (p0 p1 q0 q1 : Int) : Bool :=
  prodE [p0, p1] [q0, q1] == 0 && prodR [p0, p1] [q0, q1] == mulP p0 p1 q0 q1 && checkPolyE (mulP p0 p1 q0 q1) == 0 &&
  (List.range 4).all fun k =>
    valueE (mulP p0 p1 q0 q1) (qrt k).1 (qrt k).2 == 0 && valueE [p0, p1] (qrt k).1 (qrt k).2 == 0 && valueE [q0, q1] (qrt k).1 (qrt k).2 == 0 &&
    ((valueR (mulP p0 p1 q0 q1) (qrt k).1 (qrt k).2 == (0, 0)) == ((valueR [p0, p1] (qrt k).1 (qrt k).2 == (0, 0)) || (valueR [q0, q1] (qrt k).1 (qrt k).2 == (0, 0))))

set_option maxRecDepth 100000 in
theorem fact_all : ((List.range 9).all fun a => (List.range 4).all fun b => (List.range 9).all fun c => (List.range 4).all fun d => factB ((a : Int) - 4) ((b : Int) + 1) ((c : Int) - 4) ((d : Int) + 1)) = true := by decide +kernel

theorem fact_of {p0 p1 q0 q1 : Int} (hp0 : -4 ≤ p0 ∧ p0 ≤ 4) (hp1 : 1 ≤ p1 ∧ p1 ≤ 4) (hq0 : -4 ≤ q0 ∧ q0 ≤ 4) (hq1 : 1 ≤ q1 ∧ q1 ≤ 4) : factB p0 p1 q0 q1 = true := by
  have h := fact_all
  simp only [List.all_eq_true, List.mem_range] at h
  have h1 := h (p0 + 4).toNat (by omega) (p1 - 1).toNat (by omega) (q0 + 4).toNat (by omega) (q1 - 1).toNat (by omega)
  rw [show ((p0 + 4).toNat : Int) - 4 = p0 from by omega, show ((p1 - 1).toNat : Int) + 1 = p1 from by omega, show ((q0 + 4).toNat : Int) - 4 = q0 from by omega, show ((q1 - 1).toNat : Int) + 1 = q1 from by omega] at h1
  exact h1

end Go.Proofs.Ytnlmaildmeihgaa

/- The package harmonic: eliminated orders, orders in excess. -/
import Derived.Test.YtpkaoechbmbolaaGreatDoorHarH
namespace Go.Proofs.YtpkaoechbmbolaaGreatDoor
set_option linter.unusedSimpArgs false
set_option linter.unusedVariables false
open Go.RowKit

def cyIs0 (x : Int × Int × Int × Int) : Bool := x.1 == 0 && x.2.1 == 0 && x.2.2.1 == 0 && x.2.2.2 == 0
theorem exec_load {P : Program} {ρ : Operand → Value} {o : Oper} {t : TypeId} {x : Operand} {v : Value} {w : World} (hop : o.op = Op.load t x) (h : (Instr.loadAt t (ρ x)).run P w = .ok v w) : (execOp ρ o).run P w = .ok (.value v) w := by
  unfold execOp
  simp only [hop, h, Sem.run_bind, Sem.run_pure, Result.andThen_ok]

/-- a list, or none if there is an error. -/
def lsOr (e : Int) (l : List Int) : List Int := if e = 0 then l else []
def stC (x : Int × Int × Int × Int) : Int × Int := (st0 x.1 x.2.1 x.2.2.1 x.2.2.2, st1 x.1 x.2.1 x.2.2.1 x.2.2.2)
def scR (n : Int) (x : Int × Int) (m : Int) (y : Int × Int) : Int × Int := (wrap64 (wrap64 (n * x.1) - wrap64 (m * y.1)), wrap64 (wrap64 (n * x.2) - wrap64 (m * y.2)))
def Small (x : Int × Int) : Prop := (-1073741824 ≤ x.1 ∧ x.1 ≤ 1073741824) ∧ (-1073741824 ≤ x.2 ∧ x.2 ≤ 1073741824)
instance (x : Int × Int) : Decidable (Small x) := by unfold Small; infer_instance
def posB (x : Int) : Bool := decide (0 < x)
def excB (l lim : List Int) (h : Nat) : Bool := posB (sgnR (scR 256 (stC (orderC l h)) (lim[h]?.getD 0) (stC (orderC l 1))).1 (scR 256 (stC (orderC l h)) (lim[h]?.getD 0) (stC (orderC l 1))).2)

end Go.Proofs.YtpkaoechbmbolaaGreatDoor

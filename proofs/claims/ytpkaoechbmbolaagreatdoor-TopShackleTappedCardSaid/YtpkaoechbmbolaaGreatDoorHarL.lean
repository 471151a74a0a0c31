/- The package harmonic: quarter patterns, the design. -/
import Derived.Test.YtpkaoechbmbolaaGreatDoorHarK
namespace Go.Proofs.YtpkaoechbmbolaaGreatDoor
set_option linter.unusedSimpArgs false
set_option linter.unusedVariables false
open Go.RowKit

/-- one result that lies in cells. -/
theorem results_cellA {P : Program} {fn : Func} {p : Tmp} {ty : TypeId} (h : fn.results = #[.cell p ty]) (tmps : Array Value) (w : World) (B : Nat) (v : Value) (hp : tmps.getD p undef = .pointer (some ⟨B, 0, none⟩)) (hv : (loadVar ty ⟨B, 0, none⟩).run P w = .ok v w) :
    (results fn tmps).run P w = .ok v w := by
  have hp' : tmps[p]?.getD undef = .pointer (some ⟨B, 0, none⟩) := by simpa using hp
  simp [results, h, hp', asAddr, hv]
theorem Tryz.loadVar12 {l : List Int} (hl : l.length = 12) {w : World} {B : Nat} (h : BlkI w B 72 l) : Sem.run Tryz.prog (loadVar 72 ⟨B, 0, none⟩) w = .ok (.agg (ia l)) w :=
  run_loadVar_row w B 72 72 (ia l) (0, 0) _ h Tryz.undA12 rfl (by rw [Tryz.infoA12, ia_size, hl])
def qOf (a b c : Int) : List Int := [a, b, c, c, b, a, wrap64 (-a), wrap64 (-b), wrap64 (-c), wrap64 (-c), wrap64 (-b), wrap64 (-a)]
/-- a step of the search: the best triple and the greatest strength. -/
def triN (m n : Nat) : Int × Int × Int := (((n / (m + 1) / (m + 1) : Nat) : Int), ((n / (m + 1) % (m + 1) : Nat) : Int), ((n % (m + 1) : Nat) : Int))
def triL (t : Int × Int × Int) : List Int := [t.1, t.2.1, t.2.2]
def triQ (t : Int × Int × Int) : List Int := qOf t.1 t.2.1 t.2.2
def desG (g : Int × Int) (t : Int × Int × Int) : Int := sgnR (scR 1 (stC (orderC (triQ t) 1)) 1 g).1 (scR 1 (stC (orderC (triQ t) 1)) 1 g).2
def desB (lim : List Int) (g : Int × Int) (t : Int × Int × Int) : Bool := posB (desG g t) && (excL (triQ t) lim).length == 0
def desS (m : Nat) (lim : List Int) : Nat → (Int × Int × Int) × (Int × Int)
  | 0 => ((0, 0, 0), (0, 0))
  | n + 1 => if desB lim (desS m lim n).2 (triN m n) then (triN m n, stC (orderC (triQ (triN m n)) 1)) else desS m lim n
/-- what is compared is small. -/
def DesSmall (m : Nat) (lim : List Int) : Prop := ∀ n, n < (m + 1) * (m + 1) * (m + 1) → SmallP (triQ (triN m n)) lim ∧ Small (scR 1 (stC (orderC (triQ (triN m n)) 1)) 1 (desS m lim n).2)
def desE (m : Int) (lim : List Int) : Int := firstE [withinE m 0 12, limE lim]
def tri0 (t : Int × Int × Int) : Bool := t.1 == 0 && t.2.1 == 0 && t.2.2 == 0
def desR (m : Int) (lim : List Int) : (Int × Int × Int) × Int :=
  if desE m lim ≠ 0 then ((0, 0, 0), desE m lim) else if tri0 (desS m.toNat lim ((m.toNat + 1) * (m.toNat + 1) * (m.toNat + 1))).1 then ((0, 0, 0), 18) else ((desS m.toNat lim ((m.toNat + 1) * (m.toNat + 1) * (m.toNat + 1))).1, 0)
end Go.Proofs.YtpkaoechbmbolaaGreatDoor

/- Changing over: the plain facts. -/
import Derived.Test.YtpmngcffkhbofaaGreatDoorVdB
namespace Go.Proofs.YtpmngcffkhbofaaGreatDoor
section
set_option linter.unusedSimpArgs false
set_option linter.unusedVariables false
open Go.RowKit
theorem TrOk.lt {l : List P2} (h : TrOk l) : ∀ (d i : Nat) (x y : P2), l[i]? = some x → l[i + d + 1]? = some y → x.1 < y.1 := by
 intro d
 induction d with
 | zero => intro i x y hx hy; exact h.asc i x y hx hy
 | succ d ih =>
   intro i x y hx hy
   have hl := (List.getElem?_eq_some_iff.1 hy).1
   obtain ⟨z, hz⟩ : ∃ z, l[i + d + 1]? = some z := ⟨_, List.getElem?_eq_getElem (by omega)⟩
   exact Int.lt_trans (ih i x z hx hz) (h.asc (i + d + 1) z y hz (by rw [← hy]; congr 1))
theorem TrOk.sorted {l : List P2} (h : TrOk l) : l.Pairwise (fun x y => x.1 < y.1) := by
 rw [List.pairwise_iff_getElem]
 intro i j hi hj hij
 refine h.lt (j - i - 1) i _ _ (List.getElem?_eq_getElem hi) ?_
 rw [show i + (j - i - 1) + 1 = j by omega]
 exact List.getElem?_eq_getElem hj
/-- the pulses at a tick, as the reference looks. -/
def atR (l : List P2) (t : Int) : Option Int := (l.find? fun x => x.1 == t).map (·.2)
/-- a tick at which both agree. -/
def Good (la lb : List P2) (t : Int) : Prop := ∃ v, atR la t = some v ∧ atR lb t = some v
end
section
set_option linter.unusedSimpArgs false
set_option linter.unusedVariables false
open Go.RowKit
end
end Go.Proofs.YtpmngcffkhbofaaGreatDoor

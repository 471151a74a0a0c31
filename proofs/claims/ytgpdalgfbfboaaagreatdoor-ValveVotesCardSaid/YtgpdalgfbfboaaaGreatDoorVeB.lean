/- Changing over: the plain facts. -/
import Derived.Test.YtgpdalgfbfboaaaGreatDoorVdB
namespace Go.Proofs.YtgpdalgfbfboaaaGreatDoor
section
set_option linter.unusedSimpArgs false
set_option linter.unusedVariables false
open Go.RowKit
theorem TrOk.lt {l : List P2} (h : TrOk l) : ∀ (d i : Nat) (x y : P2), l[i]? = some x → l[i + d + 1]? = some y → x.1 < y.1 := by
 intro d
 induction d with
 | zero => intro i x y hx hy; exact h.asc i x y hx hy
 | succ d ih =>
   intro i x y hx hy
   have hl := (List.getElem?_eq_some_iff.1 hy).1
   obtain ⟨z, hz⟩ : ∃ z, l[i + d + 1]? = some z := ⟨_, List.getElem?_eq_getElem (by omega)⟩
   exact Int.lt_trans (ih i x z hx hz) (h.asc (i + d + 1) z y hz (by rw [← hy]; congr 1))
theorem TrOk.sorted {l : List P2} (h : TrOk l) : l.Pairwise (fun x y => x.1 < y.1) := by
 rw [List.pairwise_iff_getElem]
 intro i j hi hj hij
 refine h.lt (j - i - 1) i _ _ (List.getElem?_eq_getElem hi) ?_
 rw [show i + (j - i - 1) + 1 = j by omega]
 exact List.getElem?_eq_getElem hj
/-- the pulses at a tick, as the reference looks. -/
def atR (l : List P2) (t : Int) : Option Int := (l.find? fun x => x.1 == t).map (·.2)
theorem atR_cons (x : P2) (l : List P2) (t : Int) : atR (x :: l) t = if x.1 = t then some x.2 else atR l t := by
 unfold atR
 rw [List.find?_cons]
 by_cases h : x.1 = t
 ·simp [h]
 ·have : (x.1 == t) = false := by simpa using h
  rw [this, if_neg h]
theorem atR_mem {l : List P2} (hs : l.Pairwise (fun x y => x.1 < y.1)) {t v : Int} (h : (t, v) ∈ l) : atR l t = some v := by
 induction l with
 | nil => cases h
 | cons x l ih =>
   rw [List.pairwise_cons] at hs
   rw [atR_cons]
   rcases List.mem_cons.1 h with rfl | h
   ·simp
   ·have := hs.1 _ h
    simp only at this
    rw [if_neg (by omega)]
    exact ih hs.2 h
/-- a tick at which both agree. -/
def Good (la lb : List P2) (t : Int) : Prop := ∃ v, atR la t = some v ∧ atR lb t = some v
end
section
set_option linter.unusedSimpArgs false
set_option linter.unusedVariables false
open Go.RowKit
end
end Go.Proofs.YtgpdalgfbfboaaaGreatDoor

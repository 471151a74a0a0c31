/- Words on rows that the call itself has laid. -/
import Derived.Test.YtnlmaildmeihgaaGreatDoorBox
import Derived.Maps.AppendAt
namespace Go.Proofs.YtnlmaildmeihgaaGreatDoor
open Go.RowKit

theorem wrapEq (x : Int) : IntKind.i64.wrap x = wrap64 x := by simp only [IntKind.wrap_i64, wrap64]

theorem cellb {w w' : World} {b o : Nat} {v : Value} (h : w.cell? ⟨b, o, none⟩ = some v) (hb : Below w.heap.size w w') : w'.cell? ⟨b, o, none⟩ = some v := (hb.cell (p := ⟨b, o, none⟩) (lt_of_cellSome h)).trans h

theorem own_below {w w' : World} {base e size n : Nat} {v : Value} {xs : List Value} (h : w.ownsRow base e size v n xs) (hb : Below w.heap.size w w') : w'.ownsRow base e size v n xs := by
  obtain ⟨h1, h2⟩ := h
  refine ⟨h1, ?_⟩
  rcases h2 with h2 | ⟨g, cap, cur, hv, hg, hh, r⟩
  · exact Or.inl h2
  · exact Or.inr ⟨g, cap, cur, hv, hg, (hb.block g (Array.getElem?_eq_some_iff.1 hh).1).trans hh, r⟩

theorem own_cells {w : World} {base e : Nat} {v : Value} {l : List Int} (h : w.ownsRow base e 1 v l.length (l.map (Value.int .i64))) (hl : 0 < l.length) :
    ∃ g cap, v = .slice (some ⟨g, 0, none⟩) l.length cap ∧ base ≤ g ∧ ∀ j, j < l.length → w.cell? ⟨g, j, none⟩ = some (.int .i64 (l[j]?.getD 0)) := by
  obtain ⟨h1, h2⟩ := h
  rcases h2 with ⟨rfl, h2⟩ | ⟨g, cap, cur, rfl, hg, hh, hnc, hcap, hcs, htk⟩
  · omega
  · refine ⟨g, cap, rfl, hg, fun j hj => ?_⟩
    have : cur[j]? = some (.int .i64 (l[j]?.getD 0)) := by
      have e := congrArg (fun x : List Value => x[j]?) htk
      simp only [Nat.mul_one, List.getElem?_take, List.getElem?_map] at e
      rw [if_pos hj] at e
      rw [← Array.getElem?_toList, e, List.getElem?_eq_getElem hj]
      rfl
    simp [World.cell?, hh, this]

end Go.Proofs.YtnlmaildmeihgaaGreatDoor

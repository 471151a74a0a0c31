/- a row of integers of the call's own: its cells read so and may be written. -/
import Derived.Test.YtnlmaildmeihgaaGreatDoorHead
import Derived.Test.YtnlmaildmeihgaaGreatDoorOwn
namespace Go.Proofs.YtnlmaildmeihgaaGreatDoor
open Go.RowKit

/-- block B holds l from its first cell on, and may be written. -/
def Cells (w : World) (B : Nat) (l : List Int) : Prop := ∀ j, j < l.length → w.cell? ⟨B, j, none⟩ = some (.int .i64 (l[j]?.getD 0)) ∧ w.frozen? ⟨B, j, none⟩ = false

theorem Cells.new (w : World) (T : TypeId) (l : List Int) : Cells (w.alloc (.cells (ia l) T)) w.heap.size l := fun j hj => ⟨ia_cell w T l j hj, ia_frozen w T l j⟩
theorem Cells.below {w w' : World} {B n : Nat} {l : List Int} (h : Cells w B l) (hb : Below n w w') (hn : B < n) : Cells w' B l := fun j hj =>
  ⟨(hb.cell (p := ⟨B, j, none⟩) hn).trans (h j hj).1, (hb.frozen (p := ⟨B, j, none⟩) hn).trans (h j hj).2⟩
theorem Cells.lt {w : World} {B : Nat} {l : List Int} (h : Cells w B l) (h0 : 0 < l.length) : B < w.heap.size := lt_of_cellSome (h 0 h0).1
theorem Cells.carry {w w' : World} {B : Nat} {l : List Int} (h : Cells w B l) (hb : Below w.heap.size w w') : Cells w' B l := fun j hj =>
  have hn : B < w.heap.size := lt_of_cellSome (h j hj).1
  ⟨(hb.cell (p := ⟨B, j, none⟩) hn).trans (h j hj).1, (hb.frozen (p := ⟨B, j, none⟩) hn).trans (h j hj).2⟩
theorem Cells.set {w : World} {B : Nat} {l : List Int} (h : Cells w B l) (k : Nat) (hk : k < l.length) (x : Int) : Cells (w.setCell ⟨B, k, none⟩ (.int .i64 x)) B (l.set k x) := fun j hj => by
  rw [List.length_set] at hj
  refine ⟨?_, by rw [World.frozen?_setCell]; exact (h j hj).2⟩
  by_cases hjk : j = k
  · subst hjk
    rw [World.cell?_setCell_same' _ _ _ (by rw [(h j hj).1]; rfl)]
    simp [hj]
  · rw [World.cell?_setCell_other _ _ _ _ (by simp), (h j hj).1]
    rw [List.getElem?_set_ne (by omega)]
theorem Cells.ints {w : World} {B : Nat} {l : List Int} (h : Cells w B l) (n : Nat) (hn : n = l.length) : Ints w (.slice (some ⟨B, 0, none⟩) n n) l := by
  subst hn
  exact ⟨_, _, rfl, Nat.le_refl _, fun _ => ⟨_, _, rfl, fun j hj => by rw [Nat.zero_add]; exact (h j hj).1⟩⟩

end Go.Proofs.YtnlmaildmeihgaaGreatDoor

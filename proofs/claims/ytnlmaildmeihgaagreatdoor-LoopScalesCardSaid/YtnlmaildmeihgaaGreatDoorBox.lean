/- Words on boxes: cells of one block that the call itself has laid. -/
import Derived.Test.YtnlmaildmeihgaaGreatDoorLib
import Derived.RangeFuncBox
import Derived.RangeFuncNested
import Derived.RangeFuncBound
import Derived.RangeFuncCalls
import Derived.RangeFuncLeaves
import Derived.Shelf.Abstract
import Derived.Shelf.RegionOpen
import Derived.OwnWalkIn
import Derived.TacticsInMore
import Derived.LoopNIn
import Derived.LoopIn
namespace Go.Proofs.YtnlmaildmeihgaaGreatDoor
open Go.RowKit

/-- two cells of one block read so, and may be written. -/
structure Box2 (w : World) (B : Nat) (a b : Value) : Prop where
  c0 : w.cell? ⟨B, 0, none⟩ = some a
  c1 : w.cell? ⟨B, 1, none⟩ = some b
  f0 : w.frozen? ⟨B, 0, none⟩ = false
  f1 : w.frozen? ⟨B, 1, none⟩ = false
theorem Box2.new (w : World) (T : TypeId) (a b : Value) : Box2 (w.alloc (.cells #[a, b] T)) w.heap.size a b := ⟨cell_new _ _ _ _, cell_new _ _ _ _, frozen_new _ _ _ _, frozen_new _ _ _ _⟩
theorem Box2.lt {w : World} {B : Nat} {a b : Value} (h : Box2 w B a b) : B < w.heap.size := lt_of_cellSome h.c0
theorem Box2.below {w w' : World} {B n : Nat} {a b : Value} (h : Box2 w B a b) (hb : Below n w w') (hn : B < n) : Box2 w' B a b :=
  ⟨(hb.cell (p := ⟨B, 0, none⟩) hn).trans h.c0, (hb.cell (p := ⟨B, 1, none⟩) hn).trans h.c1, (hb.frozen (p := ⟨B, 0, none⟩) hn).trans h.f0, (hb.frozen (p := ⟨B, 1, none⟩) hn).trans h.f1⟩
theorem Box2.alloc {w : World} {B : Nat} {a b : Value} (h : Box2 w B a b) (o : Obj) : Box2 (w.alloc o) B a b := h.below ((Below.refl _ _).alloc (Nat.le_refl _) _) h.lt
theorem Box2.kept {A B : World} {k : Nat} {a b : Value} {row : Option Nat} (h : Box2 A k a b) (hg : A.grownBy B row) (hr : ∀ r, row = some r → ∃ o : Obj, A.heap[r]? = some o ∧ o.isCells = false) : Box2 B k a b :=
  ⟨cell_kept h.c0 hg hr, cell_kept h.c1 hg hr, (frozen_kept h.c0 hg hr).trans h.f0, (frozen_kept h.c1 hg hr).trans h.f1⟩
theorem Box2.set {w : World} {B : Nat} {a b : Value} (h : Box2 w B a b) (a' b' : Value) : Box2 ((w.setCell ⟨B, 0, none⟩ a').setCell ⟨B, 1, none⟩ b') B a' b' := by
  refine ⟨?_, ?_, ?_, ?_⟩
  · rw [World.cell?_setCell_other _ _ _ _ (by simp)]; exact World.cell?_setCell_same' _ _ _ (by rw [h.c0]; rfl)
  · exact World.cell?_setCell_same' _ _ _ (by rw [World.cell?_setCell_other _ _ _ _ (by simp), h.c1]; rfl)
  · rw [World.frozen?_setCell, World.frozen?_setCell]; exact h.f0
  · rw [World.frozen?_setCell, World.frozen?_setCell]; exact h.f1
theorem Box2.other {w : World} {B : Nat} {a b : Value} (h : Box2 w B a b) {p : Addr} (hp : B ≠ p.block) (u : Value) : Box2 (w.setCell p u) B a b :=
  ⟨(World.cell?_of_block (a := ⟨B, 0, none⟩) (Below.heap_setCell _ _ _ _ hp)).trans h.c0, (World.cell?_of_block (a := ⟨B, 1, none⟩) (Below.heap_setCell _ _ _ _ hp)).trans h.c1, (World.frozen?_of_block (a := ⟨B, 0, none⟩) (Below.heap_setCell _ _ _ _ hp)).trans h.f0, (World.frozen?_of_block (a := ⟨B, 1, none⟩) (Below.heap_setCell _ _ _ _ hp)).trans h.f1⟩

end Go.Proofs.YtnlmaildmeihgaaGreatDoor

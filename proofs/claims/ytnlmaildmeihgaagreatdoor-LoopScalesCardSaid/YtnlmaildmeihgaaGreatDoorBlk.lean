/- A block of cells of the call's own, known whole. -/
import Derived.Test.YtnlmaildmeihgaaGreatDoorFresh
import Derived.Test.YtnlmaildmeihgaaGreatDoorCells
namespace Go.Proofs.YtnlmaildmeihgaaGreatDoor
open Go.RowKit

/-- block B has these cells, of type T, and may be written. -/
def Blk (w : World) (B : Nat) (T : TypeId) (vs : List Value) : Prop := w.heap[B]? = some (.cells vs.toArray T (0, 0))

theorem Blk.lt {w : World} {B : Nat} {T : TypeId} {vs : List Value} (h : Blk w B T vs) : B < w.heap.size := (Array.getElem?_eq_some_iff.1 h).1
theorem Blk.cell {w : World} {B : Nat} {T : TypeId} {vs : List Value} (h : Blk w B T vs) {j : Nat} {v : Value} (hj : vs[j]? = some v) : w.cell? ⟨B, j, none⟩ = some v := by
  simp [World.cell?, show w.heap[B]? = _ from h, hj]
theorem Blk.frozen {w : World} {B : Nat} {T : TypeId} {vs : List Value} (h : Blk w B T vs) (j : Nat) : w.frozen? ⟨B, j, none⟩ = false := by
  simp [World.frozen?, show w.heap[B]? = _ from h]
theorem Blk.new (w : World) (T : TypeId) (vs : List Value) : Blk (w.alloc (.cells vs.toArray T)) w.heap.size T vs := World.alloc_heap_new w _
theorem Blk.below {w w' : World} {B n : Nat} {T : TypeId} {vs : List Value} (h : Blk w B T vs) (hb : Below n w w') (hn : B < n) : Blk w' B T vs := (hb.block B hn).trans h
theorem Blk.carry {w w' : World} {B : Nat} {T : TypeId} {vs : List Value} (h : Blk w B T vs) (hb : Below w.heap.size w w') : Blk w' B T vs := h.below hb h.lt
theorem Blk.kept {w w' : World} {row : Option Nat} {B : Nat} {T : TypeId} {vs : List Value} (h : Blk w B T vs) (hg : w.grownBy w' row) (hne : some B ≠ row) : Blk w' B T vs := (hg.block B h.lt hne).trans h
theorem Blk.set {w : World} {B : Nat} {T : TypeId} {vs : List Value} (h : Blk w B T vs) (j : Nat) (v : Value) : Blk (w.setCell ⟨B, j, none⟩ v) B T (vs.set j v) := by
  obtain ⟨hlt, hk⟩ := Array.getElem?_eq_some_iff.1 h
  show (w.heap.modify B _)[B]? = _
  rw [Array.getElem?_eq_getElem (by rw [Array.size_modify]; exact hlt), Array.getElem_modify_self, hk]
  simp
theorem Blk.other {w : World} {B B' j : Nat} {T : TypeId} {vs : List Value} (h : Blk w B T vs) (hne : B ≠ B') (v : Value) : Blk (w.setCell ⟨B', j, none⟩ v) B T vs :=
  (Below.heap_setCell _ _ _ _ hne).trans h
theorem Blk.boxed {w : World} {B : Nat} {T : TypeId} {v : Value} (h : Blk w B T [v]) : Boxed w B T v := h
theorem Boxed.blk {w : World} {B : Nat} {T : TypeId} {v : Value} (h : Boxed w B T v) : Blk w B T [v] := h
/-- a block of another type is another block. -/
theorem Blk.ne {w : World} {B B' : Nat} {T T' : TypeId} {vs vs' : List Value} (h : Blk w B T vs) (h' : Blk w B' T' vs') (hT : T ≠ T') : B ≠ B' := by
  rintro rfl
  have := h.symm.trans h'
  simp at this
  exact hT this.2

/-- block B holds the integers l. -/
abbrev BlkI (w : World) (B : Nat) (T : TypeId) (l : List Int) : Prop := Blk w B T (l.map (Value.int .i64))
theorem BlkI.new (w : World) (T : TypeId) (l : List Int) : BlkI (w.alloc (.cells (ia l) T)) w.heap.size T l := Blk.new w T _
theorem BlkI.cell {w : World} {B : Nat} {T : TypeId} {l : List Int} (h : BlkI w B T l) {j : Nat} (hj : j < l.length) : w.cell? ⟨B, j, none⟩ = some (.int .i64 (l[j]?.getD 0)) := Blk.cell h (by simp [hj])
theorem BlkI.set {w : World} {B : Nat} {T : TypeId} {l : List Int} (h : BlkI w B T l) (j : Nat) (x : Int) : BlkI (w.setCell ⟨B, j, none⟩ (.int .i64 x)) B T (l.set j x) := by
  have := Blk.set h j (.int .i64 x)
  rwa [← List.map_set] at this
theorem BlkI.own {w : World} {B n : Nat} {T : TypeId} {l : List Int} (h : BlkI w B T l) (base : Nat) (hB : base ≤ B) (hn : n = l.length) (hm : l.length ≤ maxLen) : OwnI T base w (.slice (some ⟨B, 0, none⟩) n n) l := by
  subst hn
  exact ⟨by simp, .inr ⟨_, _, _, rfl, hB, h, Nat.le_refl _, hm, by simp, by simp; exact List.take_of_length_le (by simp)⟩⟩
theorem BlkI.ints {w : World} {B n : Nat} {T : TypeId} {l : List Int} (h : BlkI w B T l) (hn : n = l.length) : Ints w (.slice (some ⟨B, 0, none⟩) n n) l := by
  subst hn
  exact ⟨_, _, rfl, Nat.le_refl _, fun _ => ⟨_, _, rfl, fun j hj => by rw [Nat.zero_add]; exact h.cell hj⟩⟩

end Go.Proofs.YtnlmaildmeihgaaGreatDoor

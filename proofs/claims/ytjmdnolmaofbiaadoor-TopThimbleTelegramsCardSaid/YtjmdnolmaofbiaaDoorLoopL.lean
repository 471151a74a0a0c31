/- Words on boxes: cells of one block that the call itself has laid. -/
import Derived.Test.YtjmdnolmaofbiaaDoorLib
import Derived.RangeFuncBox
import Derived.RangeFuncNested
import Derived.RangeFuncBound
import Derived.RangeFuncCalls
import Derived.RangeFuncLeaves
import Derived.Shelf.Abstract
import Derived.Shelf.RegionOpen
import Derived.OwnWalkIn
import Derived.TacticsInMore
import Derived.LoopNIn
import Derived.LoopIn
import Derived.Test.YtjmdnolmaofbiaaDoorLoopH
namespace Go.Proofs.YtjmdnolmaofbiaaDoor
open Go.RowKit

/-- two cells of one block read so, and may be written. -/
structure Box2 (w : World) (B : Nat) (a b : Value) : Prop where
  c0 : w.cell? ⟨B, 0, none⟩ = some a
  c1 : w.cell? ⟨B, 1, none⟩ = some b
  f0 : w.frozen? ⟨B, 0, none⟩ = false
  f1 : w.frozen? ⟨B, 1, none⟩ = false
theorem Box2.new (w : World) (T : TypeId) (a b : Value) : Box2 (w.alloc (.cells #[a, b] T)) w.heap.size a b := ⟨cell_new _ _ _ _, cell_new _ _ _ _, frozen_new _ _ _ _, frozen_new _ _ _ _⟩
theorem Box2.lt {w : World} {B : Nat} {a b : Value} (h : Box2 w B a b) : B < w.heap.size := lt_of_cellSome h.c0
theorem Box2.below {w w' : World} {B n : Nat} {a b : Value} (h : Box2 w B a b) (hb : Below n w w') (hn : B < n) : Box2 w' B a b :=
  ⟨(hb.cell (p := ⟨B, 0, none⟩) hn).trans h.c0, (hb.cell (p := ⟨B, 1, none⟩) hn).trans h.c1, (hb.frozen (p := ⟨B, 0, none⟩) hn).trans h.f0, (hb.frozen (p := ⟨B, 1, none⟩) hn).trans h.f1⟩
theorem Box2.alloc {w : World} {B : Nat} {a b : Value} (h : Box2 w B a b) (o : Obj) : Box2 (w.alloc o) B a b := h.below ((Below.refl _ _).alloc (Nat.le_refl _) _) h.lt
theorem Box2.kept {A B : World} {k : Nat} {a b : Value} {row : Option Nat} (h : Box2 A k a b) (hg : A.grownBy B row) (hr : ∀ r, row = some r → ∃ o : Obj, A.heap[r]? = some o ∧ o.isCells = false) : Box2 B k a b :=
  ⟨cell_kept h.c0 hg hr, cell_kept h.c1 hg hr, (frozen_kept h.c0 hg hr).trans h.f0, (frozen_kept h.c1 hg hr).trans h.f1⟩
theorem Box2.set {w : World} {B : Nat} {a b : Value} (h : Box2 w B a b) (a' b' : Value) : Box2 ((w.setCell ⟨B, 0, none⟩ a').setCell ⟨B, 1, none⟩ b') B a' b' := by
  refine ⟨?_, ?_, ?_, ?_⟩
  · rw [World.cell?_setCell_other _ _ _ _ (by simp)]; exact World.cell?_setCell_same' _ _ _ (by rw [h.c0]; rfl)
  · exact World.cell?_setCell_same' _ _ _ (by rw [World.cell?_setCell_other _ _ _ _ (by simp), h.c1]; rfl)
  · rw [World.frozen?_setCell, World.frozen?_setCell]; exact h.f0
  · rw [World.frozen?_setCell, World.frozen?_setCell]; exact h.f1
theorem Box2.other {w : World} {B : Nat} {a b : Value} (h : Box2 w B a b) {p : Addr} (hp : B ≠ p.block) (u : Value) : Box2 (w.setCell p u) B a b :=
  ⟨(World.cell?_of_block (a := ⟨B, 0, none⟩) (Below.heap_setCell _ _ _ _ hp)).trans h.c0, (World.cell?_of_block (a := ⟨B, 1, none⟩) (Below.heap_setCell _ _ _ _ hp)).trans h.c1, (World.frozen?_of_block (a := ⟨B, 0, none⟩) (Below.heap_setCell _ _ _ _ hp)).trans h.f0, (World.frozen?_of_block (a := ⟨B, 1, none⟩) (Below.heap_setCell _ _ _ _ hp)).trans h.f1⟩

section
open Go.RowKit Go.Shelf

attribute [local go_sem] Oper.semAt_some

theorem below_new (w : World) (o : Obj) : Below w.heap.size w (w.alloc o) := (Below.refl _ _).alloc (Nat.le_refl _) _

/-- what has come when k rounds are over: f 0, .., f (k - 1). -/
def upto {α : Type} (f : Nat → α) (k : Nat) : List α := (List.range k).map f
theorem upto_succ {α : Type} (f : Nat → α) (k : Nat) : upto f (k + 1) = upto f k ++ [f k] := by simp [upto, List.range_succ]
theorem upto_length {α : Type} (f : Nat → α) (k : Nat) : (upto f k).length = k := by simp [upto]
theorem upto_prefix {α : Type} (f : Nat → α) {k n : Nat} (h : k ≤ n) : upto f k <+: upto f n := by
  refine ⟨(List.range' k (n - k)).map f, ?_⟩
  unfold upto
  rw [← List.map_append]
  congr 1
  rw [List.range_eq_range', List.range_eq_range', show n = k + (n - k) from by omega, ← List.range'_append_1]
  simp

/-- what a round keeps: what lay below n₀, and block Bs (in which the iterator keeps its slice). -/
def KeepB (n₀ Bs : Nat) (A B : World) : Prop := Below n₀ A B ∧ B.heap[Bs]? = A.heap[Bs]?
theorem keepB_t {n₀ Bs : Nat} {A B C : World} (h : KeepB n₀ Bs A B) (k : KeepB n₀ Bs B C) : KeepB n₀ Bs A C := ⟨h.1.trans k.1, k.2.trans h.2⟩
theorem keepB_b {n₀ Bs : Nat} {w : World} (hn : n₀ ≤ w.heap.size) (hB : Bs < w.heap.size) (W : World) (l : Nat) (o o' : Obj) (hl : w.heap.size ≤ l) (h : W.heap[l]? = some o) (h1 : o.isCells = false) (h2 : o.isWalk = false) : KeepB n₀ Bs W (W.putObj l o') :=
  ⟨belowK_b hn W l o o' hl h h1 h2, World.putObj_heap_other (by omega)⟩
theorem KeepB.refl (n₀ Bs : Nat) (w : World) : KeepB n₀ Bs w w := ⟨Below.refl _ _, rfl⟩
theorem KeepB.setCell {n₀ Bs : Nat} {A B : World} (h : KeepB n₀ Bs A B) {p : Addr} (hp : n₀ ≤ p.block) (hb : Bs ≠ p.block) (u : Value) : KeepB n₀ Bs A (B.setCell p u) :=
  ⟨h.1.setCell hp u, (Below.heap_setCell _ _ _ _ hb).trans h.2⟩

/-- the pairs that slices.Backward gives. -/
def bwd (l : List Int) (j : Nat) : Int × Int := ((l.length : Int) - 1 - j, l[l.length - 1 - j]?.getD 0)

end

section
open Go.RowKit Go.Shelf

attribute [local go_sem] Oper.semAt_some

def atStep (zr zi : Int) (o x : Int × Int) : Int × Int := (wrap64 (wrap64 (wrap64 (o.1 * zr) - wrap64 (o.2 * zi)) + x.2), wrap64 (wrap64 (o.1 * zi) + wrap64 (o.2 * zr)))
def atW (p : List Int) (zr zi : Int) : Int × Int := (upto (bwd p) p.length).foldl (atStep zr zi) (0, 0)
theorem atStep_snoc (zr zi : Int) (pre : List (Int × Int)) (x : Int × Int) : (pre ++ [x]).foldl (atStep zr zi) (0, 0) = atStep zr zi (pre.foldl (atStep zr zi) (0, 0)) x := by simp

end

def valueE (p : List Int) (zr zi : Int) : Int := firstE [checkPolyE p, withinE zr (-8) 8, withinE zi (-8) 8]
def valueR (p : List Int) (zr zi : Int) : Int × Int := if valueE p zr zi ≠ 0 then (0, 0) else if zr = 0 ∧ zi = 0 then (p[0]?.getD 0, 0) else atW p zr zi

def prod1E (p q : List Int) : Int := firstE [checkPolyE p, checkPolyE q]
def prodE (p q : List Int) : Int := if prod1E p q ≠ 0 then prod1E p q else if 5 < (timesW p q).length then 5 else if (timesW p q).any largeB then 4 else 0
def prodR (p q : List Int) : List Int := if prodE p q ≠ 0 then [] else timesW p q

def checkFirstE (p l : List Int) : Int := if l.length + 1 ≠ p.length then 2 else firstE (l.map fun x => withinE x (-1000) 1000)

end Go.Proofs.YtjmdnolmaofbiaaDoor

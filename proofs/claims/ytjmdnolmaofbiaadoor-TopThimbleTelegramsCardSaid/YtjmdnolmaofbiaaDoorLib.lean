/- Words that all texts of this family use: a slice value that holds known integers in a world. -/
import Derived.WalkKit
import Derived.WalkSpells
import Derived.WalkLawsBesides
import Derived.Lib.Hide
import Derived.Deep.OwnRows
namespace Go.Proofs.YtjmdnolmaofbiaaDoor
open Go.RowKit

theorem lt_of_cellSome {w : World} {b o : Nat} {s : Option Nat} {v : Value} (h : w.cell? ⟨b, o, s⟩ = some v) : b < w.heap.size := by
  rcases Nat.lt_or_ge b w.heap.size with h' | h'
  · exact h'
  · simp [World.cell?, Array.getElem?_eq_none h'] at h

/-- the value v is a slice that holds l. -/
def Ints (w : World) (v : Value) (l : List Int) : Prop :=
  ∃ a cap, v = .slice a l.length cap ∧ l.length ≤ cap ∧ (0 < l.length → ∃ b off, a = some ⟨b, off, none⟩ ∧ ∀ j, j < l.length → w.cell? ⟨b, off + j, none⟩ = some (.int .i64 (l[j]?.getD 0)))

theorem Ints.below {w w' : World} {v : Value} {l : List Int} (h : Ints w v l) (hb : Below w.heap.size w w') : Ints w' v l := by
  obtain ⟨a, cap, hv, hc, h⟩ := h
  refine ⟨a, cap, hv, hc, fun hl => ?_⟩
  obtain ⟨b, off, ha, h⟩ := h hl
  refine ⟨b, off, ha, fun j hj => ?_⟩
  rw [hb.cell (p := ⟨b, off + j, none⟩) (lt_of_cellSome (h j hj))]
  exact h j hj

theorem ret_bool {a b : Bool} (h : a = b) : Ending.returned (.bool a) = .returned (.bool b) := by rw [h]
theorem ret_int {k : IntKind} {a b : Int} (h : a = b) : Ending.returned (.int k a) = .returned (.int k b) := by rw [h]

theorem Ints.nil (w : World) : Ints w (.slice none 0 0) [] := ⟨none, 0, rfl, by simp, fun h => by simp at h⟩

theorem Ints.lit (w : World) (T : TypeId) (l : List Int) (n : Nat) (hn : n = l.length) : Ints (w.alloc (.cells (l.map (Value.int .i64)).toArray T)) (.slice (some ⟨w.heap.size, 0, none⟩) n n) l := by
  subst hn
  refine ⟨_, _, rfl, Nat.le_refl _, fun _ => ⟨_, _, rfl, fun j hj => ?_⟩⟩
  have hh := heap_alloc_new w (.cells (l.map (Value.int .i64)).toArray T)
  unfold World.cell?
  rw [hh]
  simp [hj]

theorem Ints.drew {w : World} {v : Value} {l : List Int} (h : Ints w v l) : Ints w.drew v l := h.below (Below.refl _ _).drew

theorem Ints.alloc {w : World} {v : Value} {l : List Int} (h : Ints w v l) (o : Obj) : Ints (w.alloc o) v l := h.below ((Below.refl _ _).alloc (Nat.le_refl _) _)

theorem Ints.of_own {w : World} {base e : Nat} {v : Value} {n : Nat} {l : List Int} (h : w.ownsRow base e 1 v n (l.map (Value.int .i64))) (hn : n = l.length) : Ints w v l := by
  subst hn
  obtain ⟨h1, h2⟩ := h
  rcases h2 with ⟨rfl, h2⟩ | ⟨g, cap, cur, rfl, hg, hh, hnc, hcap, hcs, htk⟩
  · exact ⟨none, 0, by rw [h2], by omega, fun h => by omega⟩
  · refine ⟨some ⟨g, 0, none⟩, cap, rfl, hnc, fun hl => ⟨g, 0, rfl, fun j hj => ?_⟩⟩
    have : cur[j]? = some (.int .i64 (l[j]?.getD 0)) := by
      have e := congrArg (fun x : List Value => x[j]?) htk
      simp only [Nat.mul_one, List.getElem?_take, List.getElem?_map] at e
      rw [if_pos hj] at e
      rw [← Array.getElem?_toList, e, List.getElem?_eq_getElem hj]
      rfl
    simp [World.cell?, hh, this]

theorem below_own {w wr w1 : World} {e size n : Nat} {v : Value} {xs : List Value} (hbel : Below w.heap.size w wr) {o : Obj} (hown : wr.ownsRow w.heap.size e size v n xs) (hgrow : (wr.alloc o).grownBy w1 v.ownBlock) : Below w.heap.size w w1 :=
  (hbel.alloc hbel.size _).grown hgrow (by have := hbel.size; simp; omega) fun k hk => (hown.lt k hk).1

theorem take_succ_map {α β : Type} (f : α → β) (l : List α) (k : Nat) (x : α) (h : l[k]? = some x) : (l.take (k + 1)).map f = (l.take k).map f ++ [f x] := by
  rw [List.take_add_one, h]; simp

theorem getElem?_of_getD {l : List Int} {k : Nat} {x : Int} (hk : k < l.length) (h : l[k]?.getD 0 = x) : l[k]? = some x := by
  rw [← h]; simp [hk]

/-- the cells that hold l. -/
def ia (l : List Int) : Array Value := (l.map (Value.int .i64)).toArray
theorem ia_made (n : Nat) : madeCells #[.int .i64 0] n = ia (List.replicate n 0) := by
  apply Array.toList_inj.1; rw [toList_madeCells_one]; simp [ia]
theorem ia_set (l : List Int) (k : Nat) (x : Int) : (ia l).setIfInBounds k (.int .i64 x) = ia (l.set k x) := by
  simp [ia, List.map_set]
theorem ia_get (l : List Int) (k : Nat) (h : k < l.length) : (ia l)[k]? = some (.int .i64 (l[k]?.getD 0)) := by simp [ia, h]
theorem ia_size (l : List Int) : (ia l).size = l.length := by simp [ia]
theorem ia_cell (w : World) (T : TypeId) (l : List Int) (k : Nat) (h : k < l.length) : (w.alloc (.cells (ia l) T)).cell? ⟨w.heap.size, k, none⟩ = some (.int .i64 (l[k]?.getD 0)) := by
  have hh := heap_alloc_new w (.cells (ia l) T)
  unfold World.cell?
  rw [hh]
  simp [ia, h]
theorem ia_frozen (w : World) (T : TypeId) (l : List Int) (k : Nat) : (w.alloc (.cells (ia l) T)).frozen? ⟨w.heap.size, k, none⟩ = false := by
  have hh := heap_alloc_new w (.cells (ia l) T)
  unfold World.frozen?
  rw [hh]
  simp
theorem ia_set' (w : World) (T : TypeId) (l : List Int) (k : Nat) (x : Int) : (w.alloc (.cells (ia l) T)).setCell ⟨w.heap.size, k, none⟩ (.int .i64 x) = w.alloc (.cells (ia (l.set k x)) T) := by
  rw [World.setCell_alloc_at _ _ _ _ _ rfl, ia_set]
theorem Ints.ofIa (w : World) (T : TypeId) (l : List Int) : Ints (w.alloc (.cells (ia l) T)) (.slice (some ⟨w.heap.size, 0, none⟩) l.length l.length) l := Ints.lit w T l _ rfl
theorem cell_past {w : World} {b o : Nat} {v : Value} (h : w.cell? ⟨b, o, none⟩ = some v) (x : Obj) : (w.alloc x).cell? ⟨b, o, none⟩ = some v :=
  (((Below.refl w.heap.size w).alloc (Nat.le_refl _) x).cell (p := ⟨b, o, none⟩) (lt_of_cellSome h)).trans h

theorem setRow_new (w : World) (c c' : Array Value) (T : TypeId) : (w.alloc (.cells c T)).setRow w.heap.size c' = w.alloc (.cells c' T) := by
  unfold World.setRow World.alloc
  congr 1
  apply Array.ext_getElem?
  intro k
  rw [Array.getElem?_modify]
  by_cases hk : w.heap.size = k
  · subst hk; simp
  · rw [if_neg hk]; simp only [Array.getElem?_push]; rw [if_neg (fun h => hk h.symm), if_neg (fun h => hk h.symm)]

theorem addr_add (b o j : Nat) : (⟨b, o, none⟩ : Addr).add j = ⟨b, o + j, none⟩ := by simp [Addr.add]

/-- the builtin copy into a block that was laid last. -/
theorem run_copy_new {P : Program} (w : World) (dT sT ty elem T : TypeId) (dl l : List Int) (c : Nat) (a : Option Addr) (cp : Nat) (hu : P.underlying dT = some (.slice elem)) (hs : (P.info? elem).map (·.size) = some 1)
    (hv : Ints w (.slice a l.length cp) l) (hle : l.length ≤ dl.length) :
    (Builtin.copy_ #[dT, sT] ty #[.slice (some ⟨w.heap.size, 0, none⟩) dl.length c, .slice a l.length cp]).run P (w.alloc (.cells (ia dl) T)) = .ok (.int .i64 l.length) (w.alloc (.cells (ia (l ++ dl.drop l.length)) T)) := by
  obtain ⟨a', cp', he, hcp, h⟩ := hv
  cases he
  rcases Nat.eq_zero_or_pos l.length with h0 | h0
  · have hl : l = [] := List.length_eq_zero_iff.1 h0
    rw [run_copy_none _ dT sT ty elem _ a _ _ _ _ hu hs (by rw [h0]; simp)]
    subst hl; simp [goInt]
  · obtain ⟨b, off, rfl, hc⟩ := h h0
    rw [run_copy_row P _ dT sT ty elem w.heap.size 0 dl.length c ⟨b, off, none⟩ l.length cp (ia dl) T (l.map (Value.int .i64)) hu hs (heap_alloc_new _ _) (by rw [List.length_map]; exact (Nat.min_eq_left hle).symm)
      (fun j v hj => by
        rw [List.getElem?_map] at hj
        cases hq : l[j]? with
        | none => rw [hq] at hj; simp at hj
        | some x =>
          rw [hq] at hj
          have hjl : j < l.length := (List.getElem?_eq_some_iff.1 hq).1
          rw [addr_add, cell_past (hc j hjl), ← hj, hq]; rfl)
      (by simp [ia]; omega) (by intro v hv; simp at hv; obtain ⟨x, _, rfl⟩ := hv; rfl), setRow_new]
    simp [goInt, ia, List.map_drop]

theorem cell_new (w : World) (C : Array Value) (T : TypeId) (i : Nat) : (w.alloc (.cells C T)).cell? ⟨w.heap.size, i, none⟩ = C[i]? := by
  have hh := heap_alloc_new w (.cells C T)
  unfold World.cell?
  rw [hh]
  simp
theorem frozen_new (w : World) (C : Array Value) (T : TypeId) (i : Nat) : (w.alloc (.cells C T)).frozen? ⟨w.heap.size, i, none⟩ = false := by
  have hh := heap_alloc_new w (.cells C T)
  unfold World.frozen?
  rw [hh]
  simp

/-- four cells of one block read so. -/
def Four (w : World) (B : Nat) (a b c d : Value) : Prop := w.cell? ⟨B, 0, none⟩ = some a ∧ w.cell? ⟨B, 1, none⟩ = some b ∧ w.cell? ⟨B, 2, none⟩ = some c ∧ w.cell? ⟨B, 3, none⟩ = some d
theorem Four.below {w w' : World} {B : Nat} {a b c d : Value} (h : Four w B a b c d) (hb : Below w.heap.size w w') : Four w' B a b c d :=
  ⟨(hb.cell (p := ⟨B, 0, none⟩) (lt_of_cellSome h.1)).trans h.1, (hb.cell (p := ⟨B, 1, none⟩) (lt_of_cellSome h.1)).trans h.2.1, (hb.cell (p := ⟨B, 2, none⟩) (lt_of_cellSome h.1)).trans h.2.2.1, (hb.cell (p := ⟨B, 3, none⟩) (lt_of_cellSome h.1)).trans h.2.2.2⟩
theorem Four.new (w : World) (T : TypeId) (a b c d : Value) : Four (w.alloc (.cells #[a, b, c, d] T)) w.heap.size a b c d :=
  ⟨cell_new _ _ _ _, cell_new _ _ _ _, cell_new _ _ _ _, cell_new _ _ _ _⟩

theorem below_drew {w w' : World} (h : Below w.drew.heap.size w.drew w') : Below w.heap.size w w' := (Below.refl _ _).drew.trans h

/-- the first that is not 0. -/
def firstE : List Int → Int
  | [] => 0
  | x :: l => if x = 0 then firstE l else x

end Go.Proofs.YtjmdnolmaofbiaaDoor

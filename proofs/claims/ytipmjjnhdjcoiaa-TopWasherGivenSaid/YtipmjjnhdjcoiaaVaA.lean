/- Package valve: words on worlds and slices (those of the other chapters, with no function of a program in them). -/
import Derived.WalkKit
import Derived.WalkSpells
import Derived.WalkLawsBesides
import Derived.Lib.Hide
import Derived.Deep.OwnRows
import Derived.Test.YtipmjjnhdjcoiaaProg
import Derived.Deep.QuietTactic
import Derived.BigQuiet
import Derived.Conc.MuLone
import Derived.Deep.RegionHeld3
import Derived.RangeFuncBox
import Derived.RangeFuncNested
import Derived.RangeFuncBound
import Derived.RangeFuncCalls
import Derived.RangeFuncLeaves
import Derived.Shelf.Abstract
import Derived.Shelf.RegionOpen
import Derived.OwnWalkIn
import Derived.TacticsInMore
import Derived.LoopNIn
import Derived.LoopIn
import Derived.Maps.AppendAt
import Derived.Deep.AppendSrc
import Derived.Deep.DeepCutAuto
import Derived.Sort.CutIn
import Derived.Maps.OwnIn
import Derived.Laws.OwnMore
import Derived.Laws.CopyRow
import Derived.Stop.RegionWithIn
namespace Go.Proofs.Ytipmjjnhdjcoiaa
section
open Go.RowKit

theorem zSa {α : Type _} {l : List α} {i : Nat} {a : α} : l.toArray.setIfInBounds i a = (l.set i a).toArray := List.setIfInBounds_toArray _ _ _
theorem zSz {α : Type _} {x : α} {l : List α} {a : α} : (x :: l).set 0 a = a :: l := List.set_cons_zero
theorem zSs {α : Type _} {x : α} {l : List α} {i : Nat} {a : α} : (x :: l).set (i + 1) a = x :: l.set i a := List.set_cons_succ
theorem zS : (∀ (l : List Value) (i : Nat) (a : Value), l.toArray.setIfInBounds i a = (l.set i a).toArray) ∧ (∀ (x : Value) (l : List Value) (a : Value), (x :: l).set 0 a = a :: l) ∧ (∀ (x : Value) (l : List Value) (i : Nat) (a : Value), (x :: l).set (i + 1) a = x :: l.set i a) :=
  ⟨fun _ _ _ => zSa, fun _ _ _ => zSz, fun _ _ _ _ => zSs⟩
/-- one operation that can come next. -/
theorem zR {F : Fence} {n : Nat} {P : Program} {md : Region.Mode} {ops : Array Oper} {Q : Exit → Act → World → Prop} {fuel : Nat} {listed : Array Bool} {a : Act} {w : World} (i : Nat) {o : Oper} (ho : ops[i]? = some o)
    (h : ∀ K' : Act → World → Prop, (∀ a w, wpAnyIn F n P md ops Q fuel (listed.setIfInBounds i true) a w → K' a w) → if Region.wanted o (yielded ops a.tmps) = true then Oper.wpIn F n P o a w K' Q else (∀ f, o.about P w a.eval = some f → F.fn f) ∧ K' (a.put o.dst undef) w)
    (hr : Region.ready md ops listed = [i] := by kernel_rfl) : wpAnyIn F n P md ops Q (fuel + 1) listed a w := wpAnyIn_ready hr (by simp) (AllReadyIn.cons ho h AllReadyIn.nil)

theorem lt_of_cellSome {w : World} {b o : Nat} {s : Option Nat} {v : Value} (h : w.cell? ⟨b, o, s⟩ = some v) : b < w.heap.size := by
  rcases Nat.lt_or_ge b w.heap.size with h' | h'
  · exact h'
  · simp [World.cell?, Array.getElem?_eq_none h'] at h

/-- the value v is a slice that holds l. -/
def Ints (w : World) (v : Value) (l : List Int) : Prop :=
  ∃ a cap, v = .slice a l.length cap ∧ l.length ≤ cap ∧ (0 < l.length → ∃ b off, a = some ⟨b, off, none⟩ ∧ ∀ j, j < l.length → w.cell? ⟨b, off + j, none⟩ = some (.int .i64 (l[j]?.getD 0)))

theorem Ints.below {w w' : World} {v : Value} {l : List Int} (h : Ints w v l) (hb : Below w.heap.size w w') : Ints w' v l := by
  obtain ⟨a, cap, hv, hc, h⟩ := h
  refine ⟨a, cap, hv, hc, fun hl => ?_⟩
  obtain ⟨b, off, ha, h⟩ := h hl
  refine ⟨b, off, ha, fun j hj => ?_⟩
  rw [hb.cell (p := ⟨b, off + j, none⟩) (lt_of_cellSome (h j hj))]
  exact h j hj

theorem ret_bool {a b : Bool} (h : a = b) : Ending.returned (.bool a) = .returned (.bool b) := by rw [h]
theorem ret_int {k : IntKind} {a b : Int} (h : a = b) : Ending.returned (.int k a) = .returned (.int k b) := by rw [h]

theorem Ints.nil (w : World) : Ints w (.slice none 0 0) [] := ⟨none, 0, rfl, by simp, fun h => by simp at h⟩

theorem Ints.lit (w : World) (T : TypeId) (l : List Int) (n : Nat) (hn : n = l.length) : Ints (w.alloc (.cells (l.map (Value.int .i64)).toArray T)) (.slice (some ⟨w.heap.size, 0, none⟩) n n) l := by
  subst hn
  refine ⟨_, _, rfl, Nat.le_refl _, fun _ => ⟨_, _, rfl, fun j hj => ?_⟩⟩
  have hh := heap_alloc_new w (.cells (l.map (Value.int .i64)).toArray T)
  unfold World.cell?
  rw [hh]
  simp [hj]

theorem Ints.drew {w : World} {v : Value} {l : List Int} (h : Ints w v l) : Ints w.drew v l := h.below (Below.refl _ _).drew

theorem Ints.alloc {w : World} {v : Value} {l : List Int} (h : Ints w v l) (o : Obj) : Ints (w.alloc o) v l := h.below ((Below.refl _ _).alloc (Nat.le_refl _) _)

theorem Ints.of_own {w : World} {base e : Nat} {v : Value} {n : Nat} {l : List Int} (h : w.ownsRow base e 1 v n (l.map (Value.int .i64))) (hn : n = l.length) : Ints w v l := by
  subst hn
  obtain ⟨h1, h2⟩ := h
  rcases h2 with ⟨rfl, h2⟩ | ⟨g, cap, cur, rfl, hg, hh, hnc, hcap, hcs, htk⟩
  · exact ⟨none, 0, by rw [h2], by omega, fun h => by omega⟩
  · refine ⟨some ⟨g, 0, none⟩, cap, rfl, hnc, fun hl => ⟨g, 0, rfl, fun j hj => ?_⟩⟩
    have : cur[j]? = some (.int .i64 (l[j]?.getD 0)) := by
      have e := congrArg (fun x : List Value => x[j]?) htk
      simp only [Nat.mul_one, List.getElem?_take, List.getElem?_map] at e
      rw [if_pos hj] at e
      rw [← Array.getElem?_toList, e, List.getElem?_eq_getElem hj]
      rfl
    simp [World.cell?, hh, this]

theorem below_own {w wr w1 : World} {e size n : Nat} {v : Value} {xs : List Value} (hbel : Below w.heap.size w wr) {o : Obj} (hown : wr.ownsRow w.heap.size e size v n xs) (hgrow : (wr.alloc o).grownBy w1 v.ownBlock) : Below w.heap.size w w1 :=
  (hbel.alloc hbel.size _).grown hgrow (by have := hbel.size; simp; omega) fun k hk => (hown.lt k hk).1

theorem take_succ_map {α β : Type} (f : α → β) (l : List α) (k : Nat) (x : α) (h : l[k]? = some x) : (l.take (k + 1)).map f = (l.take k).map f ++ [f x] := by
  rw [List.take_add_one, h]; simp

theorem getElem?_of_getD {l : List Int} {k : Nat} {x : Int} (hk : k < l.length) (h : l[k]?.getD 0 = x) : l[k]? = some x := by
  rw [← h]; simp [hk]

/-- the cells that hold l. -/
def ia (l : List Int) : Array Value := (l.map (Value.int .i64)).toArray
theorem ia_made (n : Nat) : madeCells #[.int .i64 0] n = ia (List.replicate n 0) := by
  apply Array.toList_inj.1; rw [toList_madeCells_one]; simp [ia]
theorem ia_set (l : List Int) (k : Nat) (x : Int) : (ia l).setIfInBounds k (.int .i64 x) = ia (l.set k x) := by
  simp [ia, List.map_set]
theorem ia_get (l : List Int) (k : Nat) (h : k < l.length) : (ia l)[k]? = some (.int .i64 (l[k]?.getD 0)) := by simp [ia, h]
theorem ia_size (l : List Int) : (ia l).size = l.length := by simp [ia]
theorem ia_cell (w : World) (T : TypeId) (l : List Int) (k : Nat) (h : k < l.length) : (w.alloc (.cells (ia l) T)).cell? ⟨w.heap.size, k, none⟩ = some (.int .i64 (l[k]?.getD 0)) := by
  have hh := heap_alloc_new w (.cells (ia l) T)
  unfold World.cell?
  rw [hh]
  simp [ia, h]
theorem ia_frozen (w : World) (T : TypeId) (l : List Int) (k : Nat) : (w.alloc (.cells (ia l) T)).frozen? ⟨w.heap.size, k, none⟩ = false := by
  have hh := heap_alloc_new w (.cells (ia l) T)
  unfold World.frozen?
  rw [hh]
  simp
theorem ia_set' (w : World) (T : TypeId) (l : List Int) (k : Nat) (x : Int) : (w.alloc (.cells (ia l) T)).setCell ⟨w.heap.size, k, none⟩ (.int .i64 x) = w.alloc (.cells (ia (l.set k x)) T) := by
  rw [World.setCell_alloc_at _ _ _ _ _ rfl, ia_set]
theorem Ints.ofIa (w : World) (T : TypeId) (l : List Int) : Ints (w.alloc (.cells (ia l) T)) (.slice (some ⟨w.heap.size, 0, none⟩) l.length l.length) l := Ints.lit w T l _ rfl
theorem cell_past {w : World} {b o : Nat} {v : Value} (h : w.cell? ⟨b, o, none⟩ = some v) (x : Obj) : (w.alloc x).cell? ⟨b, o, none⟩ = some v :=
  (((Below.refl w.heap.size w).alloc (Nat.le_refl _) x).cell (p := ⟨b, o, none⟩) (lt_of_cellSome h)).trans h

theorem setRow_new (w : World) (c c' : Array Value) (T : TypeId) : (w.alloc (.cells c T)).setRow w.heap.size c' = w.alloc (.cells c' T) := by
  unfold World.setRow World.alloc
  congr 1
  apply Array.ext_getElem?
  intro k
  rw [Array.getElem?_modify]
  by_cases hk : w.heap.size = k
  · subst hk; simp
  · rw [if_neg hk]; simp only [Array.getElem?_push]; rw [if_neg (fun h => hk h.symm), if_neg (fun h => hk h.symm)]

theorem addr_add (b o j : Nat) : (⟨b, o, none⟩ : Addr).add j = ⟨b, o + j, none⟩ := by simp [Addr.add]

/-- the builtin copy into a block that was laid last. -/
theorem run_copy_new {P : Program} (w : World) (dT sT ty elem T : TypeId) (dl l : List Int) (c : Nat) (a : Option Addr) (cp : Nat) (hu : P.underlying dT = some (.slice elem)) (hs : (P.info? elem).map (·.size) = some 1)
    (hv : Ints w (.slice a l.length cp) l) (hle : l.length ≤ dl.length) :
    (Builtin.copy_ #[dT, sT] ty #[.slice (some ⟨w.heap.size, 0, none⟩) dl.length c, .slice a l.length cp]).run P (w.alloc (.cells (ia dl) T)) = .ok (.int .i64 l.length) (w.alloc (.cells (ia (l ++ dl.drop l.length)) T)) := by
  obtain ⟨a', cp', he, hcp, h⟩ := hv
  cases he
  rcases Nat.eq_zero_or_pos l.length with h0 | h0
  · have hl : l = [] := List.length_eq_zero_iff.1 h0
    rw [run_copy_none _ dT sT ty elem _ a _ _ _ _ hu hs (by rw [h0]; simp)]
    subst hl; simp [goInt]
  · obtain ⟨b, off, rfl, hc⟩ := h h0
    rw [run_copy_row P _ dT sT ty elem w.heap.size 0 dl.length c ⟨b, off, none⟩ l.length cp (ia dl) T (l.map (Value.int .i64)) hu hs (heap_alloc_new _ _) (by rw [List.length_map]; exact (Nat.min_eq_left hle).symm)
      (fun j v hj => by
        rw [List.getElem?_map] at hj
        cases hq : l[j]? with
        | none => rw [hq] at hj; simp at hj
        | some x =>
          rw [hq] at hj
          have hjl : j < l.length := (List.getElem?_eq_some_iff.1 hq).1
          rw [addr_add, cell_past (hc j hjl), ← hj, hq]; rfl)
      (by simp [ia]; omega) (by intro v hv; simp at hv; obtain ⟨x, _, rfl⟩ := hv; rfl), setRow_new]
    simp [goInt, ia, List.map_drop]

theorem cell_new (w : World) (C : Array Value) (T : TypeId) (i : Nat) : (w.alloc (.cells C T)).cell? ⟨w.heap.size, i, none⟩ = C[i]? := by
  have hh := heap_alloc_new w (.cells C T)
  unfold World.cell?
  rw [hh]
  simp
theorem frozen_new (w : World) (C : Array Value) (T : TypeId) (i : Nat) : (w.alloc (.cells C T)).frozen? ⟨w.heap.size, i, none⟩ = false := by
  have hh := heap_alloc_new w (.cells C T)
  unfold World.frozen?
  rw [hh]
  simp

/-- four cells of one block read so. -/
def Four (w : World) (B : Nat) (a b c d : Value) : Prop := w.cell? ⟨B, 0, none⟩ = some a ∧ w.cell? ⟨B, 1, none⟩ = some b ∧ w.cell? ⟨B, 2, none⟩ = some c ∧ w.cell? ⟨B, 3, none⟩ = some d
theorem Four.below {w w' : World} {B : Nat} {a b c d : Value} (h : Four w B a b c d) (hb : Below w.heap.size w w') : Four w' B a b c d :=
  ⟨(hb.cell (p := ⟨B, 0, none⟩) (lt_of_cellSome h.1)).trans h.1, (hb.cell (p := ⟨B, 1, none⟩) (lt_of_cellSome h.1)).trans h.2.1, (hb.cell (p := ⟨B, 2, none⟩) (lt_of_cellSome h.1)).trans h.2.2.1, (hb.cell (p := ⟨B, 3, none⟩) (lt_of_cellSome h.1)).trans h.2.2.2⟩
theorem Four.new (w : World) (T : TypeId) (a b c d : Value) : Four (w.alloc (.cells #[a, b, c, d] T)) w.heap.size a b c d :=
  ⟨cell_new _ _ _ _, cell_new _ _ _ _, cell_new _ _ _ _, cell_new _ _ _ _⟩

theorem below_drew {w w' : World} (h : Below w.drew.heap.size w.drew w') : Below w.heap.size w w' := (Below.refl _ _).drew.trans h

/-- the first that is not 0. -/
def firstE : List Int → Int
  | [] => 0
  | x :: l => if x = 0 then firstE l else x
end

section
open Go.RowKit

def whenE (c : Bool) (e : Int) : Int := if c then e else 0

def withinE (n lo hi : Int) : Int := if n < lo ∨ hi < n then 3 else 0

theorem firstE_take_succ (l : List Int) (k : Nat) (hk : k < l.length) (h : firstE (l.take k) = 0) : firstE (l.take (k + 1)) = l[k]?.getD 0 := by
  induction l generalizing k with
  | nil => simp at hk
  | cons x l ih =>
    cases k with
    | zero => simp [firstE]; intro h; exact h.symm
    | succ k =>
      simp only [List.take_succ_cons, firstE] at h ⊢
      split at h
      · rename_i hx; simp only [hx, if_true]; simpa using ih k (by simpa using hk) h
      · exact absurd h (by assumption)

theorem firstE_of_take (l : List Int) (k : Nat) (h : firstE (l.take k) ≠ 0) : firstE l = firstE (l.take k) := by
  induction l generalizing k with
  | nil => simp
  | cons x l ih =>
    cases k with
    | zero => simp [firstE] at h
    | succ k =>
      simp only [List.take_succ_cons, firstE] at h ⊢
      split at h
      · rename_i hx; simp only [hx, if_true] ; exact ih k h
      · rename_i hx; simp [hx]

theorem Try.infoErrno : (Try.prog.info? 36).map (fun i => (i.zero, i.size, i.bytes)) = some (some (.int .i64 0), 1, 8) := by kernel_rfl

def coefE (x : Int) : Int := withinE x (-100) 100

def checkPolyE (l : List Int) : Int :=
  if l.length = 0 then 12 else if 5 < l.length then 5 else firstE [firstE (l.map coefE), whenE (l[l.length - 1]?.getD 0 == 0) 6]

def tInner (q : List Int) (i : Nat) (a : Int) (out : List Int) : Nat → List Int
  | 0 => out
  | k + 1 => (tInner q i a out k).set (i + k) (wrap64 ((tInner q i a out k)[i + k]?.getD 0 + wrap64 (a * q[k]?.getD 0)))
def tOuter (p q : List Int) (out : List Int) : Nat → List Int
  | 0 => out
  | i + 1 => tInner q i (p[i]?.getD 0) (tOuter p q out i) q.length
def timesW (p q : List Int) : List Int := tOuter p q (List.replicate (p.length + q.length - 1) 0) p.length

theorem tInner_length (q : List Int) (i : Nat) (a : Int) (out : List Int) (k : Nat) : (tInner q i a out k).length = out.length := by
  induction k with
  | zero => rfl
  | succ k ih => simp [tInner, ih]
theorem tOuter_length (p q out : List Int) (k : Nat) : (tOuter p q out k).length = out.length := by
  induction k with
  | zero => rfl
  | succ k ih => simp [tOuter, tInner_length, ih]
theorem timesW_length (p q : List Int) : (timesW p q).length = p.length + q.length - 1 := by simp [timesW, tOuter_length]

theorem Try.infoInt : (Try.prog.info? 3).map (fun i => (i.zero, i.size, i.bytes)) = some (some (.int .i64 0), 1, 8) := by kernel_rfl

def powW (a : Int) : Nat → Int
  | 0 => 1
  | k + 1 => wrap64 (powW a k * a)

def largeB (x : Int) : Bool := coefE x != 0

def findI (g : Int → Bool) (l : List Int) : Int := match l.findIdx? g with | some i => (i : Int) | none => -1

theorem findI_none {g : Int → Bool} {l : List Int} (h : l.any g = false) : findI g l = -1 := by
  have : l.findIdx? g = none := by
    rw [List.findIdx?_eq_none_iff]; intro x hx; exact (List.any_eq_false.1 h) x hx |> Bool.eq_false_iff.2
  simp [findI, this]

theorem findI_some {g : Int → Bool} {l : List Int} {k : Nat} {x : Int} (hk : l[k]? = some x) (h : (l.take k).any g = false) (hx : g x = true) : findI g l = k := by
  have : l.findIdx? g = some k := by
    rw [List.findIdx?_eq_some_iff_getElem]
    obtain ⟨hlt, he⟩ := List.getElem?_eq_some_iff.1 hk
    refine ⟨hlt, by rw [he]; exact hx, fun j hj => ?_⟩
    have := List.any_eq_false.1 h (l[j]'(by omega)) (by rw [List.mem_take_iff_getElem]; exact ⟨j, by omega, rfl⟩)
    simpa using this
  simp [findI, this]

theorem findI_ge (g : Int → Bool) (l : List Int) : decide (0 ≤ findI g l) = l.any g := by
  unfold findI
  cases h : l.findIdx? g with
  | none =>
    have : l.any g = false := by
      rw [List.findIdx?_eq_none_iff] at h
      rw [List.any_eq_false]; intro x hx; rw [h x hx]; simp
    simp [this]
  | some i =>
    rw [List.findIdx?_eq_some_iff_getElem] at h
    obtain ⟨hlt, hg, _⟩ := h
    have : l.any g = true := List.any_eq_true.2 ⟨_, List.getElem_mem hlt, hg⟩
    simp [this]

theorem any_take_succ {g : Int → Bool} {l : List Int} {k : Nat} {x : Int} (hk : l[k]? = some x) (h : (l.take k).any g = false) (hx : g x = false) : (l.take (k + 1)).any g = false := by
  rw [List.take_add_one, hk, List.any_append, h]; simp [hx]
end

section
open Go.RowKit

def trimN (l : List Int) : Nat → Nat
  | 0 => 0
  | m + 1 => if l[m]?.getD 0 = 0 then trimN l m else m + 1
theorem trimN_le (l : List Int) (m : Nat) : trimN l m ≤ m := by
  induction m with
  | zero => exact Nat.le_refl _
  | succ m ih => unfold trimN; split <;> omega
def trimL (l : List Int) : List Int := l.take (trimN l l.length)
theorem trimL_length (l : List Int) : (trimL l).length = trimN l l.length := by
  have := trimN_le l l.length
  simp [trimL]; omega

theorem Ints.take {w : World} {b off n cp : Nat} {l : List Int} (h : Ints w (.slice (some ⟨b, off, none⟩) l.length cp) l) (hn : n ≤ l.length) : Ints w (.slice (some ⟨b, off, none⟩) n cp) (l.take n) := by
  obtain ⟨a, cp', he, hc, h⟩ := h
  cases he
  refine ⟨_, cp, by rw [List.length_take, Nat.min_eq_left hn], by rw [List.length_take]; omega, fun h0 => ?_⟩
  rw [List.length_take] at h0
  obtain ⟨b', off', he, h⟩ := h (by omega)
  cases he
  refine ⟨_, _, rfl, fun j hj => ?_⟩
  rw [List.length_take] at hj
  rw [h j (by omega), List.getElem?_take, if_pos (by omega)]

def pInner (q : List Int) (out : List Int) : Nat → List Int
  | 0 => out
  | k + 1 => (pInner q out k).set k (wrap64 ((pInner q out k)[k]?.getD 0 + q[k]?.getD 0))
theorem pInner_length (q out : List Int) (k : Nat) : (pInner q out k).length = out.length := by
  induction k with
  | zero => rfl
  | succ k ih => simp [pInner, ih]
def sumW (p q : List Int) : List Int := pInner q (p ++ List.replicate (max p.length q.length - p.length) 0) q.length
theorem sumW_length (p q : List Int) : (sumW p q).length = max p.length q.length := by simp [sumW, pInner_length]; omega
def plusW (p q : List Int) : List Int := trimL (sumW p q)

theorem Ints.plus (w : World) (T : TypeId) (p q : List Int) (n m : Nat) (hn : n = trimN (sumW p q) (max p.length q.length)) (hm : m = max p.length q.length) :
    Ints (w.alloc (.cells (ia (sumW p q)) T)) (.slice (some ⟨w.heap.size, 0, none⟩) n m) (plusW p q) := by
  have hl := sumW_length p q
  subst hn hm
  rw [← hl]
  exact (Ints.ofIa w T (sumW p q)).take (trimN_le _ _)

/-- a call that hands back a slice that holds l, in new memory. -/
def GivesInts (w : World) (l : List Int) (r : Ending) (w' : World) : Prop := (∃ u, r = .returned u ∧ Ints w' u l) ∧ Below w.heap.size w w'

def closedW (a b c d : List Int) : List Int := plusW (timesW b d) (timesW a c)

theorem bthen {w w1 w2 : World} (h1 : Below w.heap.size w w1) (h2 : Below w1.heap.size w1 w2) : Below w.heap.size w w2 := h1.trans (h2.mono h1.size)

theorem closedW_length (a b c d : List Int) : (closedW a b c d).length ≤ max (b.length + d.length - 1) (a.length + c.length - 1) := by
  unfold closedW plusW
  rw [trimL_length]
  have := trimN_le (sumW (timesW b d) (timesW a c)) (sumW (timesW b d) (timesW a c)).length
  rw [sumW_length, timesW_length, timesW_length] at this
  rw [sumW_length, timesW_length, timesW_length]
  exact this

def loop1E (a b c d : List Int) : Int := firstE [checkPolyE a, checkPolyE b, checkPolyE c, checkPolyE d]
def loop2E (a b c d : List Int) : Int :=
  firstE [whenE (decide ((2 : Int) < max ((b.length : Int) - 1) ((d.length : Int) - 1))) 20, whenE (decide (b.length ≤ a.length) || decide (d.length < c.length)) 2, whenE ((closedW a b c d).any largeB) 4]
def checkLoopE (a b c d : List Int) : Int := if loop1E a b c d ≠ 0 then loop1E a b c d else loop2E a b c d

theorem checkPolyE_ok {l : List Int} (h : checkPolyE l = 0) : 1 ≤ l.length ∧ l.length ≤ 5 := by
  unfold checkPolyE at h
  split at h
  · simp at h
  · split at h
    · simp at h
    · omega
theorem firstE_cons_ok {x : Int} {l : List Int} (h : firstE (x :: l) = 0) : x = 0 ∧ firstE l = 0 := by
  unfold firstE at h
  split at h
  · exact ⟨by assumption, h⟩
  · exact absurd h (by assumption)
theorem loop1E_ok {a b c d : List Int} (h : loop1E a b c d = 0) : checkPolyE a = 0 ∧ checkPolyE b = 0 ∧ checkPolyE c = 0 ∧ checkPolyE d = 0 := by
  obtain ⟨h1, h⟩ := firstE_cons_ok h
  obtain ⟨h2, h⟩ := firstE_cons_ok h
  obtain ⟨h3, h⟩ := firstE_cons_ok h
  obtain ⟨h4, h⟩ := firstE_cons_ok h
  exact ⟨h1, h2, h3, h4⟩

/-- what Closed, Product and their like hand back: a list and an error. -/
def GivesPoly (w : World) (l : List Int) (e : Int) (r : Ending) (w' : World) : Prop := (∃ u, r = .returned (.tuple #[u, .int .i64 e]) ∧ Ints w' u l) ∧ Below w.heap.size w w'

def closedR (a b c d : List Int) : List Int := if checkLoopE a b c d ≠ 0 then [] else closedW a b c d

theorem checkLoopE_ok {a b c d : List Int} (h : checkLoopE a b c d = 0) : checkPolyE a = 0 ∧ checkPolyE b = 0 ∧ checkPolyE c = 0 ∧ checkPolyE d = 0 := by
  unfold checkLoopE at h
  split at h
  · exact absurd h (by assumption)
  · rename_i h1; exact loop1E_ok (by simpa using h1)
end

section
open Go.RowKit

/-- two cells of one block read so, and may be written. -/
structure Box2 (w : World) (B : Nat) (a b : Value) : Prop where
  c0 : w.cell? ⟨B, 0, none⟩ = some a
  c1 : w.cell? ⟨B, 1, none⟩ = some b
  f0 : w.frozen? ⟨B, 0, none⟩ = false
  f1 : w.frozen? ⟨B, 1, none⟩ = false
theorem Box2.new (w : World) (T : TypeId) (a b : Value) : Box2 (w.alloc (.cells #[a, b] T)) w.heap.size a b := ⟨cell_new _ _ _ _, cell_new _ _ _ _, frozen_new _ _ _ _, frozen_new _ _ _ _⟩
theorem Box2.lt {w : World} {B : Nat} {a b : Value} (h : Box2 w B a b) : B < w.heap.size := lt_of_cellSome h.c0
theorem Box2.below {w w' : World} {B n : Nat} {a b : Value} (h : Box2 w B a b) (hb : Below n w w') (hn : B < n) : Box2 w' B a b :=
  ⟨(hb.cell (p := ⟨B, 0, none⟩) hn).trans h.c0, (hb.cell (p := ⟨B, 1, none⟩) hn).trans h.c1, (hb.frozen (p := ⟨B, 0, none⟩) hn).trans h.f0, (hb.frozen (p := ⟨B, 1, none⟩) hn).trans h.f1⟩
theorem Box2.alloc {w : World} {B : Nat} {a b : Value} (h : Box2 w B a b) (o : Obj) : Box2 (w.alloc o) B a b := h.below ((Below.refl _ _).alloc (Nat.le_refl _) _) h.lt
theorem Box2.kept {A B : World} {k : Nat} {a b : Value} {row : Option Nat} (h : Box2 A k a b) (hg : A.grownBy B row) (hr : ∀ r, row = some r → ∃ o : Obj, A.heap[r]? = some o ∧ o.isCells = false) : Box2 B k a b :=
  ⟨cell_kept h.c0 hg hr, cell_kept h.c1 hg hr, (frozen_kept h.c0 hg hr).trans h.f0, (frozen_kept h.c1 hg hr).trans h.f1⟩
theorem Box2.set {w : World} {B : Nat} {a b : Value} (h : Box2 w B a b) (a' b' : Value) : Box2 ((w.setCell ⟨B, 0, none⟩ a').setCell ⟨B, 1, none⟩ b') B a' b' := by
  refine ⟨?_, ?_, ?_, ?_⟩
  · rw [World.cell?_setCell_other _ _ _ _ (by simp)]; exact World.cell?_setCell_same' _ _ _ (by rw [h.c0]; rfl)
  · exact World.cell?_setCell_same' _ _ _ (by rw [World.cell?_setCell_other _ _ _ _ (by simp), h.c1]; rfl)
  · rw [World.frozen?_setCell, World.frozen?_setCell]; exact h.f0
  · rw [World.frozen?_setCell, World.frozen?_setCell]; exact h.f1
theorem Box2.other {w : World} {B : Nat} {a b : Value} (h : Box2 w B a b) {p : Addr} (hp : B ≠ p.block) (u : Value) : Box2 (w.setCell p u) B a b :=
  ⟨(World.cell?_of_block (a := ⟨B, 0, none⟩) (Below.heap_setCell _ _ _ _ hp)).trans h.c0, (World.cell?_of_block (a := ⟨B, 1, none⟩) (Below.heap_setCell _ _ _ _ hp)).trans h.c1, (World.frozen?_of_block (a := ⟨B, 0, none⟩) (Below.heap_setCell _ _ _ _ hp)).trans h.f0, (World.frozen?_of_block (a := ⟨B, 1, none⟩) (Below.heap_setCell _ _ _ _ hp)).trans h.f1⟩

section
open Go.RowKit Go.Shelf

attribute [local go_sem] Oper.semAt_some

theorem below_new (w : World) (o : Obj) : Below w.heap.size w (w.alloc o) := (Below.refl _ _).alloc (Nat.le_refl _) _

/-- what has come when k rounds are over: f 0, .., f (k - 1). -/
def upto {α : Type} (f : Nat → α) (k : Nat) : List α := (List.range k).map f
theorem upto_succ {α : Type} (f : Nat → α) (k : Nat) : upto f (k + 1) = upto f k ++ [f k] := by simp [upto, List.range_succ]
theorem upto_length {α : Type} (f : Nat → α) (k : Nat) : (upto f k).length = k := by simp [upto]
theorem upto_prefix {α : Type} (f : Nat → α) {k n : Nat} (h : k ≤ n) : upto f k <+: upto f n := by
  refine ⟨(List.range' k (n - k)).map f, ?_⟩
  unfold upto
  rw [← List.map_append]
  congr 1
  rw [List.range_eq_range', List.range_eq_range', show n = k + (n - k) from by omega, ← List.range'_append_1]
  simp

/-- what a round keeps: what lay below n₀, and block Bs (in which the iterator keeps its slice). -/
def KeepB (n₀ Bs : Nat) (A B : World) : Prop := Below n₀ A B ∧ B.heap[Bs]? = A.heap[Bs]?
theorem keepB_t {n₀ Bs : Nat} {A B C : World} (h : KeepB n₀ Bs A B) (k : KeepB n₀ Bs B C) : KeepB n₀ Bs A C := ⟨h.1.trans k.1, k.2.trans h.2⟩
theorem keepB_b {n₀ Bs : Nat} {w : World} (hn : n₀ ≤ w.heap.size) (hB : Bs < w.heap.size) (W : World) (l : Nat) (o o' : Obj) (hl : w.heap.size ≤ l) (h : W.heap[l]? = some o) (h1 : o.isCells = false) (h2 : o.isWalk = false) : KeepB n₀ Bs W (W.putObj l o') :=
  ⟨belowK_b hn W l o o' hl h h1 h2, World.putObj_heap_other (by omega)⟩
theorem KeepB.refl (n₀ Bs : Nat) (w : World) : KeepB n₀ Bs w w := ⟨Below.refl _ _, rfl⟩
theorem KeepB.setCell {n₀ Bs : Nat} {A B : World} (h : KeepB n₀ Bs A B) {p : Addr} (hp : n₀ ≤ p.block) (hb : Bs ≠ p.block) (u : Value) : KeepB n₀ Bs A (B.setCell p u) :=
  ⟨h.1.setCell hp u, (Below.heap_setCell _ _ _ _ hb).trans h.2⟩

/-- the pairs that slices.Backward gives. -/
def bwd (l : List Int) (j : Nat) : Int × Int := ((l.length : Int) - 1 - j, l[l.length - 1 - j]?.getD 0)

end

section
open Go.RowKit Go.Shelf

attribute [local go_sem] Oper.semAt_some

def atStep (zr zi : Int) (o x : Int × Int) : Int × Int := (wrap64 (wrap64 (wrap64 (o.1 * zr) - wrap64 (o.2 * zi)) + x.2), wrap64 (wrap64 (o.1 * zi) + wrap64 (o.2 * zr)))
def atW (p : List Int) (zr zi : Int) : Int × Int := (upto (bwd p) p.length).foldl (atStep zr zi) (0, 0)
theorem atStep_snoc (zr zi : Int) (pre : List (Int × Int)) (x : Int × Int) : (pre ++ [x]).foldl (atStep zr zi) (0, 0) = atStep zr zi (pre.foldl (atStep zr zi) (0, 0)) x := by simp

end

def valueE (p : List Int) (zr zi : Int) : Int := firstE [checkPolyE p, withinE zr (-8) 8, withinE zi (-8) 8]
def valueR (p : List Int) (zr zi : Int) : Int × Int := if valueE p zr zi ≠ 0 then (0, 0) else if zr = 0 ∧ zi = 0 then (p[0]?.getD 0, 0) else atW p zr zi

def prod1E (p q : List Int) : Int := firstE [checkPolyE p, checkPolyE q]
def prodE (p q : List Int) : Int := if prod1E p q ≠ 0 then prod1E p q else if 5 < (timesW p q).length then 5 else if (timesW p q).any largeB then 4 else 0
def prodR (p q : List Int) : List Int := if prodE p q ≠ 0 then [] else timesW p q

def checkFirstE (p l : List Int) : Int := if l.length + 1 ≠ p.length then 2 else firstE (l.map fun x => withinE x (-1000) 1000)
end

section
open Go.RowKit

theorem wrapEq (x : Int) : IntKind.i64.wrap x = wrap64 x := by simp only [IntKind.wrap_i64, wrap64]

theorem cellb {w w' : World} {b o : Nat} {v : Value} (h : w.cell? ⟨b, o, none⟩ = some v) (hb : Below w.heap.size w w') : w'.cell? ⟨b, o, none⟩ = some v := (hb.cell (p := ⟨b, o, none⟩) (lt_of_cellSome h)).trans h

theorem own_below {w w' : World} {base e size n : Nat} {v : Value} {xs : List Value} (h : w.ownsRow base e size v n xs) (hb : Below w.heap.size w w') : w'.ownsRow base e size v n xs := by
  obtain ⟨h1, h2⟩ := h
  refine ⟨h1, ?_⟩
  rcases h2 with h2 | ⟨g, cap, cur, hv, hg, hh, r⟩
  · exact Or.inl h2
  · exact Or.inr ⟨g, cap, cur, hv, hg, (hb.block g (Array.getElem?_eq_some_iff.1 hh).1).trans hh, r⟩

theorem own_cells {w : World} {base e : Nat} {v : Value} {l : List Int} (h : w.ownsRow base e 1 v l.length (l.map (Value.int .i64))) (hl : 0 < l.length) :
    ∃ g cap, v = .slice (some ⟨g, 0, none⟩) l.length cap ∧ base ≤ g ∧ ∀ j, j < l.length → w.cell? ⟨g, j, none⟩ = some (.int .i64 (l[j]?.getD 0)) := by
  obtain ⟨h1, h2⟩ := h
  rcases h2 with ⟨rfl, h2⟩ | ⟨g, cap, cur, rfl, hg, hh, hnc, hcap, hcs, htk⟩
  · omega
  · refine ⟨g, cap, rfl, hg, fun j hj => ?_⟩
    have : cur[j]? = some (.int .i64 (l[j]?.getD 0)) := by
      have e := congrArg (fun x : List Value => x[j]?) htk
      simp only [Nat.mul_one, List.getElem?_take, List.getElem?_map] at e
      rw [if_pos hj] at e
      rw [← Array.getElem?_toList, e, List.getElem?_eq_getElem hj]
      rfl
    simp [World.cell?, hh, this]

section
variable {α : Type} {F : Fence} {n : Nat} {P : Program}

/-- what an iterator does with its yield: X tells of an element what holds of it as it is handed over; Kp is what a body must keep; wr: it may write blocks that it has laid itself. -/
def SeqX (F : Fence) (n : Nat) (P : Program) (g : Nat) (lb : Array Value) (encs : α → Array Value) (X : List α → α → World → Prop) (Kp : World → World → Prop) (S Sp : List α → Prop) (wr : Bool) (w : World) : Prop :=
  ∀ (l : Nat) (J Jx : List α → World → Prop) (W : World), Below w.heap.size w W →
    (∀ pre A B row, J pre A → A.grownBy B row → (∀ r, row = some r → wr = true ∧ W.heap.size ≤ r) → J pre B) → (∀ pre A B, Jx pre A → A.grownBy B none → Jx pre B) →
    (∀ pre x W1, J pre W1 → X pre x W1 → YieldAt F (n - 1) P l (encs x) W1 fun e W' =>
      (e = .returned (.bool true) ∧ J (pre ++ [x]) W' ∧ Kp W1 W') ∨ (e = .returned (.bool false) ∧ Jx (pre ++ [x]) W')) →
    J [] W →
    CallsIn F n P g (#[.func (.yield l) #[] #[]] ++ lb) W fun e W' => (∃ v, e = .returned v) ∧ ((∃ xs, S xs ∧ J xs W') ∨ (∃ pre, Sp pre ∧ Jx pre W'))

/-- the two blocks that the model keeps for an outermost loop. -/
def Books (D : Nat) (R : LoopState → Option Code → Loop) (st : LoopState) (pe : Option Code) (W : World) : Prop :=
  W.heap[D + 1]? = some (.loop (R st pe)) ∧ W.heap[D]? = some (.deferred (some []))

theorem Books.grow {D : Nat} {R : LoopState → Option Code → Loop} {st : LoopState} {pe : Option Code} {A B : World} {row : Option Nat} (h : Books D R st pe A) (hg : A.grownBy B row) (hr : ∀ r, row = some r → D + 2 ≤ r) : Books D R st pe B :=
  ⟨(hg.block _ (Array.getElem?_eq_some_iff.1 h.1).1 (fun e => by have := hr _ e.symm; omega)).trans h.1, (hg.block _ (Array.getElem?_eq_some_iff.1 h.2).1 (fun e => by have := hr _ e.symm; omega)).trans h.2⟩
theorem Books.from {D : Nat} {R : LoopState → Option Code → Loop} {st : LoopState} {pe : Option Code} {A B : World} (h : Books D R st pe A) (hg : KeepsFrom D A B) : Books D R st pe B :=
  ⟨hg.same _ _ (by omega) h.1 rfl, hg.same _ _ (by omega) h.2 rfl⟩
theorem Books.turn {D : Nat} {R : LoopState → Option Code → Loop} {st st' : LoopState} {pe pe' : Option Code} {A : World} (h : Books D R st pe A) : Books D R st' pe' (A.putObj (D + 1) (.loop (R st' pe'))) :=
  ⟨World.putObj_heap_same (Array.getElem?_eq_some_iff.1 h.1).1, (World.putObj_heap_other (by omega)).trans h.2⟩

theorem wpIn_rangeX {g : Operand} {ps : Array Tmp} {assign body : Code} {Q : Exit → Act → World → Prop} {a : Act} {w : World}
    (hro : F.round = none) (h1 : 1 ≤ n) {gf : Nat} {lb : Array Value} (hg : a.eval g = .func (.func gf) #[] lb) (hFg : F.fn gf) (eg : ∀ args w, (callFunc gf args).run P w = .ok (.enter gf args) w)
    {encs : α → Array Value} {X : List α → α → World → Prop} {Kp : World → World → Prop} {S Sp : List α → Prop} {wr : Bool} {w0 : World} (hseq : SeqX F (n - 1) P gf lb encs X Kp S Sp wr w0)
    (hKt : ∀ {A B C : World}, Kp A B → Kp B C → Kp A C) (hKb : ∀ (W : World) (l : Nat) (o o' : Obj), w.heap.size ≤ l → W.heap[l]? = some o → o.isCells = false → o.isWalk = false → Kp W (W.putObj l o')) (hb0 : Below w0.heap.size w0 w) (hps : ∀ x, (encs x).size = ps.size)
    (I : List α → World → Prop) (Ix : Code → List α → World → Prop) (hI : OwnFrom w.heap.size I) (hIx : ∀ c, OwnFrom w.heap.size (Ix c)) (h0 : I [] w)
    (hIw : wr = true → ∀ pre A B r, I pre A → A.grownBy B (some r) → w.heap.size ≤ r → I pre B)
    (Ax : List α → α → Act → World → Prop) (hAx : ∀ pre x a', OwnFrom w.heap.size (fun (_ : Unit) W => Ax pre x a' W))
    (hassign : ∀ (l : Nat) (pre : List α) (x : α) (W : World) (K : Act → World → Prop), I pre W → X pre x W → (∀ a' W', KeepsFrom w.heap.size W W' → Kp W W' → I pre W' → Ax pre x a' W' → K a' W') →
      assign.wpIn (F.inRound l) (n - 1 - 1) P (Exit.then K (fun _ _ _ => False)) { tmps := (ps.zip (encs x)).foldl (fun t (p, v) => t.setIfInBounds p v) a.tmps, defers := [] } W)
    (hbody : ∀ (l : Nat) (pre : List α) (x : α) (a' : Act) (W : World), I pre W → Ax pre x a' W → body.wpIn (F.inRound l) (n - 1 - 1) P (ownPostG w.heap.size Kp I Ix (pre ++ [x]) W) a' W)
    (hdone : ∀ (D : Nat) (xs : List α) (W : World), w.heap.size ≤ D → S xs → I xs W → W.heap[D]? = some (.deferred (some [])) → Q .normal { a with defers := { target := .collected D, args := #[] } :: a.defers } W)
    (hstop : ∀ (D : Nat) (c : Code) (pre : List α) (W : World), w.heap.size ≤ D → Sp pre → Ix c pre W → W.heap[D]? = some (.deferred (some [])) → c.wpIn F n P Q { a with defers := { target := .collected D, args := #[] } :: a.defers } W) :
    (Code.rangeFunc g ps assign body).wpIn F n P Q a w := by
  refine wpIn_rangeFunc fun fn hfn => ?_
  rw [hro]
  obtain ⟨R, hR⟩ : ∃ R : LoopState → Option Code → Loop, ∀ st pe, R st pe = { state := st, pending := pe, fn, tmps := a.tmps, params := ps, assign, body, defers := w.heap.size } := ⟨_, fun _ _ => rfl⟩
  obtain ⟨V, hV⟩ : ∃ V, V = (w.alloc (.deferred (some []))).alloc (.loop (R .ready none)) := ⟨_, rfl⟩
  have hen := run_enterLoop_outer (P := P) (w := w) fn a.tmps ps assign body
  rw [← hR, ← hV] at hen
  have hbk : Books w.heap.size R .ready none V := by
    rw [hV]
    refine ⟨?_, (Below.heap_alloc _ _ _ (by simp)).trans (World.alloc_heap_new w _)⟩
    have := World.alloc_heap_new (w.alloc (.deferred (some []))) (.loop (R .ready none))
    rwa [World.size_alloc] at this
  have hbV : Below w0.heap.size w0 V := by
    rw [hV]; exact hb0.trans ((((Below.refl _ w).alloc (Nat.le_refl _) _).alloc (by simp) _).mono hb0.size)
  have hVs : V.heap.size = w.heap.size + 2 := by rw [hV]; simp
  have hIV : I [] V := by rw [hV]; exact hI.alloc _ (hI.alloc _ h0)
  refine ⟨_, _, V, { target := .fn (.func gf) lb, args := #[.func (.yield (w.heap.size + 1)) #[] #[]] }, V, gf, _, V, hen, by simp only [resolve, hg]; simp [go_sem], fun f' hf' => by simp [Target.leads] at hf'; subst hf'; exact hFg, by simp [invoke, go_sem, eg]; rfl, fun _ => h1, ?_⟩
  have turnI : ∀ {W : World} {pre : List α} {st st' : LoopState} {pe pe' : Option Code}, I pre W → Books w.heap.size R st pe W → I pre (W.putObj (w.heap.size + 1) (.loop (R st' pe'))) := fun hi hb => hI.putObj _ hi (by omega) hb.1 rfl
  have turnX : ∀ {W : World} {pre : List α} {c : Code} {st st' : LoopState} {pe pe' : Option Code}, Ix c pre W → Books w.heap.size R st pe W → Ix c pre (W.putObj (w.heap.size + 1) (.loop (R st' pe'))) := fun hi hb => (hIx _).putObj _ hi (by omega) hb.1 rfl
  have turnK : ∀ {W : World} {st st' : LoopState} {pe pe' : Option Code}, Books w.heap.size R st pe W → Kp W (W.putObj (w.heap.size + 1) (.loop (R st' pe'))) := fun hb => hKb _ _ _ _ (by omega) hb.1 rfl rfl
  refine (hseq (w.heap.size + 1) (fun pre W => I pre W ∧ Books w.heap.size R .ready none W) (fun pre W => ∃ c, Ix c pre W ∧ Books w.heap.size R .done (some c) W) V hbV
    (fun pre A B row h hg hr => ⟨by
      cases row with
      | none => exact hI pre A B none h.1 hg (fun r e => by cases e)
      | some r => exact hIw (hr r rfl).1 pre A B r h.1 hg (by have := (hr r rfl).2; omega), h.2.grow hg (fun r e => by have := (hr r e).2; omega)⟩)
    (fun pre A B ⟨c, h, hb⟩ hg => ⟨c, hIx c pre A B none h hg (fun r e => by cases e), hb.grow hg (fun r e => by cases e)⟩) ?_ ⟨hIV, hbk⟩).mono ?_
  · rintro pre x W ⟨hi, hb⟩ hx
    have hy := run_yield (P := P) (args := encs x) hb.1 (by rw [hR]; exact hps x)
    simp only [hR] at hy
    refine ⟨fn, _, assign, body, hy, roundIn_of_wpIn hfn (hassign _ pre x W _ hi hx fun a' W' hkf hkp hi' hax => ?_)⟩
    have hb' := hb.from hkf
    have hbusy : Books w.heap.size R .busy none (W'.putObj (w.heap.size + 1) (.loop (R .busy none))) := hb'.turn
    have hbg := run_beginRound (P := P) hb'.1 (by rw [hR])
    have e1 : ({ R .ready none with state := .busy } : Loop) = R .busy none := by rw [hR, hR]
    rw [e1] at hbg
    refine ⟨_, hbg, wpIn_mono (hbody _ pre x a' _ (turnI hi' hb') ((hAx pre x a').putObj (s := ()) _ hax (by omega) hb'.1 rfl)) ?_⟩
    have fin : ∀ (jump : Option Code) (W3 : World), Books w.heap.size R .busy none W3 → (Instr.endRound (w.heap.size + 1) jump).run P W3 = .ok (.bool jump.isNone) (W3.putObj (w.heap.size + 1) (.loop (R (if jump.isNone then .ready else .done) jump))) := fun jump W3 h3 => by
      have := run_endRound (P := P) jump h3.1
      rw [this]; congr 3
      rw [hR, hR]
    have stop : ∀ (c : Code) (W3 : World), KeepsFrom w.heap.size (W'.putObj (w.heap.size + 1) (.loop (R .busy none))) W3 → Ix c (pre ++ [x]) W3 → ∃ v w', (Instr.endRound (w.heap.size + 1) (some c)).run P W3 = .ok v w' ∧
        ((Ending.returned v = .returned (.bool true) ∧ (I (pre ++ [x]) w' ∧ Books w.heap.size R .ready none w') ∧ Kp W w') ∨ (Ending.returned v = .returned (.bool false) ∧ ∃ c, Ix c (pre ++ [x]) w' ∧ Books w.heap.size R .done (some c) w')) := fun c W3 hk3 hi3 =>
      ⟨_, _, fin (some c) W3 (hbusy.from hk3), .inr ⟨rfl, c, turnX hi3 (hbusy.from hk3), (hbusy.from hk3).turn⟩⟩
    rintro e a3 W3 hp
    cases e with
    | normal =>
      obtain ⟨hk3, hkp3, hi3⟩ := hp
      exact ⟨_, _, fin none W3 (hbusy.from hk3), .inl ⟨rfl, ⟨turnI hi3 (hbusy.from hk3), (hbusy.from hk3).turn⟩, hKt hkp (hKt (turnK hb') (hKt hkp3 (turnK (hbusy.from hk3))))⟩⟩
    | ret => exact stop _ W3 hp.1 hp.2
    | exit id => exact stop _ W3 hp.1 hp.2
    | goto t => exact stop _ W3 hp.1 hp.2
    | panic ch => exact hp.elim
    | outgrown => exact hp.elim
  · have fin : ∀ (st : LoopState) (pe : Option Code) (W3 : World), st ≠ .busy → Books w.heap.size R st pe W3 → (Instr.endLoop (w.heap.size + 1)).run P W3 = .ok pe (W3.putObj (w.heap.size + 1) (.loop (R .exhausted pe))) := fun st pe W3 hst h3 => by
      have := run_endLoop (P := P) h3.1 (by rw [hR]; exact hst)
      rw [this]
      simp only [hR]
    rintro e W2 ⟨⟨v, rfl⟩, ⟨xs, hS, hi, hb⟩ | ⟨pre, hSp, c, hi, hb⟩⟩
    · exact ⟨none, _, fin _ _ _ (by simp) hb, hdone _ xs _ (Nat.le_refl _) hS (turnI hi hb) (hb.turn (st' := .exhausted) (pe' := none)).2⟩
    · exact ⟨some c, _, fin _ _ _ (by simp) hb, hstop _ c pre _ (Nat.le_refl _) hSp (turnX hi hb) (hb.turn (st' := .exhausted) (pe' := some c)).2⟩
end

/-- the law for one loop variable that lies in a slot: s; yield's own slot is p. -/
theorem wp_rangeV {δ : Type} {P : Program} {g : Operand} {p s : Nat} {assign body : Code} {Q : Exit → Act → World → Prop} {a : Act} {w : World}
    {gf : Nat} {lb : Array Value} (hg : a.eval g = .func (.func gf) #[] lb) (eg : ∀ args w, (callFunc gf args).run P w = .ok (.enter gf args) w)
    {X : List (Value × δ) → Value × δ → World → Prop} {Kp : World → World → Prop} {S Sp : List (Value × δ) → Prop} {wr : Bool} {w0 : World} (hseq : SeqX Fence.wide 4 P gf lb (fun x => #[x.1]) X Kp S Sp wr w0)
    (hKt : ∀ {A B C : World}, Kp A B → Kp B C → Kp A C) (hKb : ∀ (W : World) (l : Nat) (o o' : Obj), w.heap.size ≤ l → W.heap[l]? = some o → o.isCells = false → o.isWalk = false → Kp W (W.putObj l o')) (hKr : ∀ W, Kp W W) (hb0 : Below w0.heap.size w0 w)
    (I : List (Value × δ) → World → Prop) (Ix : Code → List (Value × δ) → World → Prop) (hI : OwnFrom w.heap.size I) (hIx : ∀ c, OwnFrom w.heap.size (Ix c)) (h0 : I [] w)
    (hIw : wr = true → ∀ pre A B r, I pre A → A.grownBy B (some r) → w.heap.size ≤ r → I pre B)
    (hX : ∀ pre, OwnFrom w.heap.size (X pre))
    (hassign : ∀ (l : Nat) (v : Value) (W : World) (K : Act → World → Prop), K { tmps := (a.tmps.setIfInBounds p v).setIfInBounds s v, defers := [] } W →
      assign.wpIn (Fence.wide.inRound l) 3 P (Exit.then K (fun _ _ _ => False)) { tmps := a.tmps.setIfInBounds p v, defers := [] } W)
    (hbody : ∀ (l : Nat) (pre : List (Value × δ)) (x : Value × δ) (W : World), I pre W → X pre x W → body.wpIn (Fence.wide.inRound l) 3 P (ownPostG w.heap.size Kp I Ix (pre ++ [x]) W) { tmps := (a.tmps.setIfInBounds p x.1).setIfInBounds s x.1, defers := [] } W)
    (hdone : ∀ (D : Nat) (xs : List (Value × δ)) (W : World), w.heap.size ≤ D → S xs → I xs W → W.heap[D]? = some (.deferred (some [])) → Q .normal { a with defers := { target := .collected D, args := #[] } :: a.defers } W)
    (hstop : ∀ (D : Nat) (c : Code) (pre : List (Value × δ)) (W : World), w.heap.size ≤ D → Sp pre → Ix c pre W → W.heap[D]? = some (.deferred (some [])) → c.wp P Q { a with defers := { target := .collected D, args := #[] } :: a.defers } W) :
    (Code.rangeFunc g #[p] assign body).wp P Q a w :=
  (wpIn_wide (n := 5)).1 (wpIn_rangeX rfl (by omega) hg trivial eg hseq hKt hKb hb0 (fun _ => rfl) I Ix hI hIx h0 hIw
    (fun pre x a' W => a' = { tmps := (a.tmps.setIfInBounds p x.1).setIfInBounds s x.1, defers := [] } ∧ X pre x W) (fun pre x a' _ A B row hs hg hr => ⟨hs.1, hX pre x A B row hs.2 hg hr⟩)
    (fun l pre x W K hi hx hK => by
      have e : ((#[p].zip #[x.1]).foldl (fun t (p, v) => t.setIfInBounds p v) a.tmps) = a.tmps.setIfInBounds p x.1 := by simp
      rw [e]; exact hassign l x.1 W K (hK _ _ (KeepsFrom.refl _ _) (hKr W) hi ⟨rfl, hx⟩))
    (fun l pre x a' W hi ⟨e, hx⟩ => by subst e; exact hbody l pre x W hi hx) hdone (fun D c pre W h1 h2 h3 h4 => wpIn_wide.2 (hstop D c pre W h1 h2 h3 h4)))

/-- I abides whatever happens to blocks from H on. -/
def StableFrom {β : Type} (H : Nat) (I : β → World → Prop) : Prop := ∀ s A B row, I s A → A.grownBy B row → (∀ r, row = some r → H ≤ r) → I s B
theorem StableFrom.own {β : Type} {H : Nat} {I : β → World → Prop} (h : StableFrom H I) : OwnFrom H I := fun s A B row hs hg hr => h s A B row hs hg (fun r e => (hr r e).1)
theorem StableFrom.and {β : Type} {H : Nat} {I I' : β → World → Prop} (h : StableFrom H I) (h' : StableFrom H I') : StableFrom H (fun s W => I s W ∧ I' s W) := fun s A B row hs hg hr => ⟨h s A B row hs.1 hg hr, h' s A B row hs.2 hg hr⟩
theorem StableFrom.pure {β : Type} (H : Nat) (p : β → Prop) : StableFrom H (fun s (_ : World) => p s) := fun _ _ _ _ hs _ _ => hs
theorem StableFrom.below {β : Type} {H n₀ : Nat} {w : World} (h : n₀ ≤ H) (hw : n₀ ≤ w.heap.size) : StableFrom H (fun (_ : β) W => Below n₀ w W) := fun _ A B row hs hg hr =>
  hs.grown hg (by have := hs.size; omega) (fun r e => by have := hr r e; omega)
theorem StableFrom.block {β : Type} {H B : Nat} (h : B < H) (f : β → Option Obj) : StableFrom H (fun (s : β) W => W.heap[B]? = f s ∧ B < W.heap.size) := fun s A B' row hs hg hr =>
  ⟨(hg.block B hs.2 (fun e => by have := hr B e.symm; omega)).trans hs.1, Nat.lt_of_lt_of_le hs.2 hg.size⟩
theorem keeps_of_below {A B : World} (h : Below A.heap.size A B) : KeepsOthers A B := ⟨h.size, fun k _ hk _ => (h.block k (Array.getElem?_eq_some_iff.1 hk).1).trans hk⟩

/-- the same, where what the caller knows abides whatever happens to later blocks. -/
theorem wp_rangeS {δ : Type} {P : Program} {g : Operand} {p s : Nat} {assign body : Code} {Q : Exit → Act → World → Prop} {a : Act} {w : World}
    {gf : Nat} {lb : Array Value} (hg : a.eval g = .func (.func gf) #[] lb) (eg : ∀ args w, (callFunc gf args).run P w = .ok (.enter gf args) w)
    {X : List (Value × δ) → Value × δ → World → Prop} {Kp : World → World → Prop} {S Sp : List (Value × δ) → Prop} {wr : Bool} {w0 : World} (hseq : SeqX Fence.wide 4 P gf lb (fun x => #[x.1]) X Kp S Sp wr w0)
    (hKt : ∀ {A B C : World}, Kp A B → Kp B C → Kp A C) (hKb : ∀ (W : World) (l : Nat) (o o' : Obj), w.heap.size ≤ l → W.heap[l]? = some o → o.isCells = false → o.isWalk = false → Kp W (W.putObj l o')) (hKr : ∀ W, Kp W W) (hb0 : Below w0.heap.size w0 w)
    (I : List (Value × δ) → World → Prop) (Ix : Code → List (Value × δ) → World → Prop) (hI : StableFrom w.heap.size I) (hIx : ∀ c, OwnFrom w.heap.size (Ix c)) (h0 : I [] w)
    (hX : ∀ pre, OwnFrom w.heap.size (X pre))
    (hassign : ∀ (l : Nat) (v : Value) (W : World) (K : Act → World → Prop), K { tmps := (a.tmps.setIfInBounds p v).setIfInBounds s v, defers := [] } W →
      assign.wpIn (Fence.wide.inRound l) 3 P (Exit.then K (fun _ _ _ => False)) { tmps := a.tmps.setIfInBounds p v, defers := [] } W)
    (hbody : ∀ (l : Nat) (pre : List (Value × δ)) (x : Value × δ) (W : World), I pre W → X pre x W → body.wpIn (Fence.wide.inRound l) 3 P (ownPostG w.heap.size Kp I Ix (pre ++ [x]) W) { tmps := (a.tmps.setIfInBounds p x.1).setIfInBounds s x.1, defers := [] } W)
    (hdone : ∀ (D : Nat) (xs : List (Value × δ)) (W : World), w.heap.size ≤ D → S xs → I xs W → W.heap[D]? = some (.deferred (some [])) → Q .normal { a with defers := { target := .collected D, args := #[] } :: a.defers } W)
    (hstop : ∀ (D : Nat) (c : Code) (pre : List (Value × δ)) (W : World), w.heap.size ≤ D → Sp pre → Ix c pre W → W.heap[D]? = some (.deferred (some [])) → c.wp P Q { a with defers := { target := .collected D, args := #[] } :: a.defers } W) :
    (Code.rangeFunc g #[p] assign body).wp P Q a w :=
  wp_rangeV hg eg hseq hKt hKb hKr hb0 I Ix hI.own hIx h0 (fun _ pre A B r h hg hr => hI pre A B (some r) h hg (fun r' e => by cases e; exact hr)) hX hassign hbody hdone hstop

/-- what a function that ranges over functions leaves: it returns; the block for the rounds' deferred calls is taken over. -/
def postR (P : Program) (fn : Func) (R : Ending → World → Prop) : Exit → Act → World → Prop
  | .ret, a, w => LeavesInM Fence.wide 5 P fn a.tmps R a.defers .returning w
  | .normal, a, w => LeavesInM Fence.wide 5 P fn a.tmps R a.defers .returning w
  | _, _, _ => False

theorem calls_of_postR {P : Program} {f : FuncId} {fn : Func} {c : Code} {args : Array Value} {w : World} {R : Ending → World → Prop} (hf : P.funcs[f]? = some fn) (hb : fn.body = some c)
    (h : c.wp P (postR P fn R) { tmps := args ++ Array.replicate (fn.ntmps - args.size) undef, defers := [] } w) : Calls P f args w R :=
  (callsIn_wide (n := 5)).1 (callsIn_of_wp_marks hf hb trivial (wpIn_mono (wpIn_wide.2 h) fun e a w hq => by cases e <;> first | exact hq | exact hq.elim) rfl)

theorem postR_ret {P : Program} {fn : Func} {R : Ending → World → Prop} {a : Act} {w : World} {v : Value} (hr : (results fn a.tmps).run P w = .ok v w) (hd : a.defers = []) (hR : R (.returned v) w) : postR P fn R .ret a w := by
  show LeavesInM _ _ _ _ _ _ _ _ _
  rw [hd]; exact ⟨v, hr, hR⟩
theorem postR_mark {P : Program} {fn : Func} {R : Ending → World → Prop} {a : Act} {w : World} {v : Value} {D : Nat} (hk : w.heap[D]? = some (.deferred (some []))) (hd : a.defers = [{ target := .collected D, args := #[] }])
    (hr : (results fn a.tmps).run P (w.putObj D (.deferred none)) = .ok v (w.putObj D (.deferred none))) (hR : R (.returned v) (w.putObj D (.deferred none))) : postR P fn R .ret a w := by
  show LeavesInM _ _ _ _ _ _ _ _ _
  rw [hd]; exact ⟨by simp, .inl ⟨_, _, rfl, run_takeDeferred hk, ⟨v, hr, hR⟩⟩⟩

def stepIn (p out : List Int) (n t : Nat) : Nat → Int
  | 0 => 0
  | k + 1 => wrap64 (stepIn p out n t k - wrap64 (wrap64 (p[k]?.getD 0 * out[t - n + k]?.getD 0) * powW (p[n]?.getD 0) (n - k - 1)))
def stepVal (p l out : List Int) (n t : Nat) : Int := if t < n then wrap64 (l[t]?.getD 0 * powW (p[n]?.getD 0) t) else stepIn p out n t n
def inB (x : Int) : Prop := ¬ x < -1073741824 ∧ ¬ 1073741824 < x
instance (x : Int) : Decidable (inB x) := by unfold inB; infer_instance
def stepL (p l : List Int) (n : Nat) : Nat → Option (List Int)
  | 0 => some []
  | t + 1 => match stepL p l n t with
    | none => none
    | some out => if inB (stepVal p l out n t) then some (out ++ [stepVal p l out n t]) else none
theorem stepL_none {p l : List Int} {n t : Nat} (h : stepL p l n t = none) {t' : Nat} (ht : t ≤ t') : stepL p l n t' = none := by
  induction ht with
  | refl => exact h
  | step _ ih => rw [stepL, ih]
theorem stepL_yes {p l out : List Int} {n t : Nat} (h : stepL p l n t = some out) (hb : inB (stepVal p l out n t)) : stepL p l n (t + 1) = some (out ++ [stepVal p l out n t]) := by
  rw [stepL, h]; simp only []; rw [if_pos hb]
theorem stepL_no {p l out : List Int} {n t : Nat} (h : stepL p l n t = some out) (hb : ¬ inB (stepVal p l out n t)) : stepL p l n (t + 1) = none := by
  rw [stepL, h]; simp only []; rw [if_neg hb]

def step2E (p l : List Int) (steps : Int) : Int := firstE [whenE (((p.length - 1 : Nat) : Int) == 0) 12, checkFirstE p l, withinE steps 0 24]
def steppedE (p l : List Int) (steps : Int) : Int :=
  if checkPolyE p ≠ 0 then checkPolyE p else if step2E p l steps ≠ 0 then step2E p l steps else match stepL p l (p.length - 1) (p.length - 1 + steps.toNat) with | none => 4 | some _ => 0
def steppedR (p l : List Int) (steps : Int) : List Int :=
  if checkPolyE p ≠ 0 then [] else if step2E p l steps ≠ 0 then [] else (stepL p l (p.length - 1) (p.length - 1 + steps.toNat)).getD []

theorem withinE_ok {n lo hi : Int} (h : withinE n lo hi = 0) : lo ≤ n ∧ n ≤ hi := by
  unfold withinE at h
  split at h
  · simp at h
  · omega

theorem Ints.head {w : World} {v : Value} {l : List Int} (h : Ints w v l) (h0 : 0 < l.length) : ∃ b off cap, v = .slice (some ⟨b, off, none⟩) l.length cap ∧ ∀ j, j < l.length → w.cell? ⟨b, off + j, none⟩ = some (.int .i64 (l[j]?.getD 0)) := by
  obtain ⟨a, cap, rfl, _, hc⟩ := h
  obtain ⟨b, off, rfl, hd⟩ := hc h0
  exact ⟨b, off, cap, rfl, hd⟩

theorem Ints.new (w : World) (T : TypeId) (l : List Int) (n b : Nat) (C : Array Value) (hb : b = w.heap.size) (hC : C = (l.map (Value.int .i64)).toArray) (hn : n = l.length) : Ints (w.alloc (.cells C T)) (.slice (some ⟨b, 0, none⟩) n n) l := by
  subst hb hC
  exact Ints.lit w T l n hn

theorem Ints.carry {w w' : World} {v : Value} {l : List Int} (h : Ints w v l) (hb : Below w.heap.size w w') : Ints w' v l := h.below hb
theorem Box2.carry {w w' : World} {B : Nat} {a b : Value} (h : Box2 w B a b) (hb : Below w.heap.size w w') : Box2 w' B a b := h.below hb h.lt

theorem run_append_fresh {P : Program} (w : World) (t tx ty e e' : TypeId) (i : TypeInfo) (z : Value) (ht : P.underlying t = some (.slice e)) (htx : P.underlying tx = some (.slice e')) (hi : P.info? e = some i) (hz : i.zero = some z) (hs1 : i.size = 1) (hby : i.bytes = 8)
    (g o : Nat) (v : Value) (l : List Int) (hv : Ints w v l) (hl : l.length ≤ 1000000000) :
    ∃ b off cap w', (Builtin.append_ #[t, tx] ty #[.slice (some ⟨g, o, none⟩) 0 0, v]).run P w = .ok (.slice (some ⟨b, off, none⟩) l.length cap) w' ∧ Ints w' (.slice (some ⟨b, off, none⟩) l.length cap) l ∧ Below w.heap.size w w' := by
  obtain ⟨a, cp, rfl, hc, hv⟩ := hv
  rcases Nat.eq_zero_or_pos l.length with h0 | h0
  · obtain rfl : l = [] := List.length_eq_zero_iff.1 h0
    refine ⟨g, o, 0, w, ?_, ⟨_, 0, rfl, by simp, fun h => by simp at h⟩, Below.refl _ _⟩
    have hf : ∀ (x : Value), (∃ a c, x = .slice a 0 c) → (Builtin.firstCells 1 0 x).run P w = .ok #[] w := fun x ⟨a, c, hx⟩ => by
      subst hx
      cases a with
      | none => exact run_firstCells_none w 1 0 0 c
      | some a => exact run_firstCells_some w 1 0 a 0 c [] (by simp) (by simp)
    simp [Builtin.append_, run_underlying ht, run_underlying htx, sizeOf, typeInfo, hi, hs1, Builtin.lenOf, hf _ ⟨a, cp, rfl⟩, storeCells]
  · obtain ⟨b, off, rfl, hcs⟩ := hv h0
    have hsrc : Src P i.size tx (.slice (some ⟨b, off, none⟩) l.length cp) l.length (l.map (Value.int .i64)) w := Src.ofSlice w htx ⟨b, off, none⟩ l.length cp (l.map (Value.int .i64)) (by simp [hs1]) (fun j u hj => by
      rw [List.getElem?_map] at hj
      cases hq : l[j]? with
      | none => rw [hq] at hj; simp at hj
      | some x =>
        rw [hq] at hj
        rw [addr_add, hcs j (List.getElem?_eq_some_iff.1 hq).1, hq]; simpa using hj) (by intro u hu; simp at hu; obtain ⟨x, _, rfl⟩ := hu; rfl)
    have hrun := run_append_grow_src (P := P) (w := w) t tx ty e i z ht hi hz (some ⟨g, o, none⟩) 0 0 [] (run_firstCells_some w.drew i.size 0 ⟨g, o, none⟩ 0 0 [] (by simp) (by simp)) _ _ _ hsrc (by omega) (by omega) (by rw [hby]; simp [Builtin.nextslicecap]; split <;> omega)
    refine ⟨w.heap.size, 0, _, _, by simpa using hrun, ?_, ?_⟩
    · refine ⟨_, _, rfl, ?_, fun _ => ⟨_, _, rfl, fun j hj => ?_⟩⟩
      · have := grownCap_ge w (0 + l.length) 0 e; simpa using this
      · rw [Nat.zero_add]
        have := cell_new w.drew ((([] : List Value) ++ l.map (Value.int .i64)).toArray ++ Builtin.zeroCells z.cells (grownCap w (0 + l.length) 0 e - (0 + l.length))) e j
        rw [show w.drew.heap.size = w.heap.size from rfl] at this
        simp only [List.nil_append, Nat.zero_add] at this
        refine this.trans ?_
        rw [Array.getElem?_append_left (by simpa using hj)]
        simp [hj]
    · exact (Below.refl _ _).drew.alloc (Nat.le_refl _) _

/-- 'append(T{}, l...)' at an operation: a new slice that holds l. -/
theorem wp_append_fresh {P : Program} {o : Oper} {a : Act} {w : World} {K : Act → World → Prop} {Q : Exit → Act → World → Prop} (s x : Operand) (t tx e e' : TypeId)
    (ho : o.op = .call { callee := .builtin .append, args := #[s, x], argTypes := #[t, tx] })
    (i : TypeInfo) (z : Value) (ht : P.underlying t = some (.slice e)) (htx : P.underlying tx = some (.slice e')) (hi : P.info? e = some i) (hz : i.zero = some z) (hs1 : i.size = 1) (hby : i.bytes = 8)
    (g og : Nat) (hs : a.eval s = .slice (some ⟨g, og, none⟩) 0 0) (v : Value) (l : List Int) (hx : a.eval x = v) (hv : Ints w v l) (hl : l.length ≤ 1000000000)
    (h : ∀ b off cap w', Ints w' (.slice (some ⟨b, off, none⟩) l.length cap) l → Below w.heap.size w w' → K (a.put o.dst (.slice (some ⟨b, off, none⟩) l.length cap)) w') : o.wp P a w K Q := by
  obtain ⟨b, off, cap, w', hr, h2, h3⟩ := run_append_fresh (P := P) w t tx o.type e e' i z ht htx hi hz hs1 hby g og v l hv hl
  unfold Oper.wp execOp
  simp only [ho, resolve, invoke, builtin, Sem.run_bind, Sem.run_pure, Result.andThen_ok, List.map_toArray, List.map_cons, List.map_nil, hs, hx, hr]
  exact h b off cap w' h2 h3

theorem wpList_append_fresh {P : Program} {ops : Array Oper} {rest : List Oper} {o : Oper} {a : Act} {w : World} {Q : Exit → Act → World → Prop} (hgd : o.guard = none) (s x : Operand) (t tx e e' : TypeId)
    (ho : o.op = .call { callee := .builtin .append, args := #[s, x], argTypes := #[t, tx] })
    (i : TypeInfo) (z : Value) (ht : P.underlying t = some (.slice e)) (htx : P.underlying tx = some (.slice e')) (hi : P.info? e = some i) (hz : i.zero = some z) (hs1 : i.size = 1) (hby : i.bytes = 8)
    (g og : Nat) (hs : a.eval s = .slice (some ⟨g, og, none⟩) 0 0) (v : Value) (l : List Int) (hx : a.eval x = v) (hv : Ints w v l) (hl : l.length ≤ 1000000000)
    (h : ∀ b off cap w', Ints w' (.slice (some ⟨b, off, none⟩) l.length cap) l → Below w.heap.size w w' → wpList P ops Q rest (a.put o.dst (.slice (some ⟨b, off, none⟩) l.length cap)) w') : wpList P ops Q (o :: rest) a w :=
  wpList_plain hgd fun _ hK => wp_append_fresh s x t tx e e' ho i z ht htx hi hz hs1 hby g og hs v l hx hv hl fun b off cap w' h1 h2 => hK _ _ (h b off cap w' h1 h2)

theorem run_append_freshO {P : Program} (w : World) (t tx ty e : TypeId) (i : TypeInfo) (z : Value) (size bytes : Nat) (ht : P.underlying t = some (.slice e)) (hi : P.info? e = some i) (hz : i.zero = some z) (hs1 : i.size = size) (hby : i.bytes = bytes) (hzs : z.cells.size = size)
    (g o : Nat) (v : Value) (n : Nat) (news : List Value) (hsrc : Src P size tx v n news w) (hn : 0 < n) (hm : n ≤ maxLen) (hfit : n * bytes ≤ 281474976710656) :
    ∃ u w', (Builtin.append_ #[t, tx] ty #[.slice (some ⟨g, o, none⟩) 0 0, v]).run P w = .ok u w' ∧ w'.ownsRow w.heap.size e size u n news ∧ Below w.heap.size w w' := by
  subst hs1
  have hm' := hm
  unfold maxLen at hm'
  have hc : Builtin.nextslicecap (0 + n) 0 = n := by rw [Nat.zero_add]; exact nextslicecap_zero hn
  have hrun := run_append_grow_src (P := P) (w := w) t tx ty e i z ht hi hz (some ⟨g, o, none⟩) 0 0 [] (run_firstCells_some w.drew i.size 0 ⟨g, o, none⟩ 0 0 [] (by simp) (by simp)) v n news hsrc (by omega) (by omega) (by rw [hc, hby]; exact hfit)
  refine ⟨_, _, hrun, ⟨hsrc.newsLen, .inr ⟨w.heap.size, _, _, by rw [Nat.zero_add], Nat.le_refl _, heap_alloc_new w.drew _, ?_, grownCap_le_maxLen _ _ _ _ (by omega), ?_, ?_⟩⟩, (Below.refl _ _).drew.alloc (Nat.le_refl _) _⟩
  · have := grownCap_ge w (0 + n) 0 e; simpa using this
  · have := grownCap_ge w (0 + n) 0 e
    simp only [List.nil_append, Array.size_append, List.size_toArray, size_zeroCells, hsrc.newsLen, hzs]
    simp only [Nat.zero_add] at this ⊢
    rw [← Nat.add_mul]; congr 1; omega
  · simp only [List.nil_append, Array.toList_append]
    rw [List.take_append_of_le_length (by rw [hsrc.newsLen]; exact Nat.le_refl _), ← hsrc.newsLen, List.take_length]

theorem wp_append_freshO {P : Program} {o : Oper} {a : Act} {w : World} {K : Act → World → Prop} {Q : Exit → Act → World → Prop} (s x : Operand) (t tx e : TypeId)
    (ho : o.op = .call { callee := .builtin .append, args := #[s, x], argTypes := #[t, tx] })
    (i : TypeInfo) (z : Value) (size bytes : Nat) (ht : P.underlying t = some (.slice e)) (hi : P.info? e = some i) (hz : i.zero = some z) (hs1 : i.size = size) (hby : i.bytes = bytes) (hzs : z.cells.size = size)
    (g og : Nat) (hs : a.eval s = .slice (some ⟨g, og, none⟩) 0 0) (v : Value) (n : Nat) (news : List Value) (hx : a.eval x = v) (hsrc : Src P size tx v n news w) (hn : 0 < n) (hm : n ≤ maxLen) (hfit : n * bytes ≤ 281474976710656)
    (h : ∀ u w', w'.ownsRow w.heap.size e size u n news → Below w.heap.size w w' → K (a.put o.dst u) w') : o.wp P a w K Q := by
  obtain ⟨u, w', hr, h2, h3⟩ := run_append_freshO (P := P) w t tx o.type e i z size bytes ht hi hz hs1 hby hzs g og v n news hsrc hn hm hfit
  unfold Oper.wp execOp
  simp only [ho, resolve, invoke, builtin, Sem.run_bind, Sem.run_pure, Result.andThen_ok, List.map_toArray, List.map_cons, List.map_nil, hs, hx, hr]
  exact h u w' h2 h3

theorem wpList_append_freshO {P : Program} {ops : Array Oper} {rest : List Oper} {o : Oper} {a : Act} {w : World} {Q : Exit → Act → World → Prop} (hgd : o.guard = none) (s x : Operand) (t tx e : TypeId)
    (ho : o.op = .call { callee := .builtin .append, args := #[s, x], argTypes := #[t, tx] })
    (i : TypeInfo) (z : Value) (size bytes : Nat) (ht : P.underlying t = some (.slice e)) (hi : P.info? e = some i) (hz : i.zero = some z) (hs1 : i.size = size) (hby : i.bytes = bytes) (hzs : z.cells.size = size)
    (g og : Nat) (hs : a.eval s = .slice (some ⟨g, og, none⟩) 0 0) (v : Value) (n : Nat) (news : List Value) (hx : a.eval x = v) (hsrc : Src P size tx v n news w) (hn : 0 < n) (hm : n ≤ maxLen) (hfit : n * bytes ≤ 281474976710656)
    (h : ∀ u w', w'.ownsRow w.heap.size e size u n news → Below w.heap.size w w' → wpList P ops Q rest (a.put o.dst u) w') : wpList P ops Q (o :: rest) a w :=
  wpList_plain hgd fun _ hK => wp_append_freshO s x t tx e ho i z size bytes ht hi hz hs1 hby hzs g og hs v n news hx hsrc hn hm hfit fun u w' h1 h2 => hK _ _ (h u w' h1 h2)

/-- from an empty source: the empty slice itself. -/
theorem run_append_empty {P : Program} (w : World) (t tx ty e e' : TypeId) (i : TypeInfo) (z : Value) (ht : P.underlying t = some (.slice e)) (htx : P.underlying tx = some (.slice e')) (hi : P.info? e = some i) (_hz : i.zero = some z) (g o : Nat) (x : Option Addr) (c : Nat) :
    (Builtin.append_ #[t, tx] ty #[.slice (some ⟨g, o, none⟩) 0 0, .slice x 0 c]).run P w = .ok (.slice (some ⟨g, o, none⟩) 0 0) w := by
  have hf : ∀ (x : Value), (∃ a c, x = .slice a 0 c) → (Builtin.firstCells i.size 0 x).run P w = .ok #[] w := fun x ⟨a, c, hx⟩ => by
    subst hx
    cases a with
    | none => exact run_firstCells_none w i.size 0 0 c
    | some a => exact run_firstCells_some w i.size 0 a 0 c [] (by simp) (by simp)
  simp [Builtin.append_, run_underlying ht, run_underlying htx, sizeOf, typeInfo, hi, Builtin.lenOf, hf _ ⟨x, c, rfl⟩, storeCells]

/-- a slice that holds l, as a source of an append. -/
theorem Ints.src {P : Program} {w : World} {v : Value} {l : List Int} (h : Ints w v l) {tx e : TypeId} (hk : P.underlying tx = some (.slice e)) (h0 : 0 < l.length) : Src P 1 tx v l.length (l.map (Value.int .i64)) w := by
  obtain ⟨a, cap, rfl, _, hc⟩ := h
  obtain ⟨b, off, rfl, hcs⟩ := hc h0
  refine Src.ofSlice w hk _ _ _ _ (by simp) (fun j u hj => ?_) (by intro u hu; simp at hu; obtain ⟨x, _, rfl⟩ := hu; rfl)
  rw [List.getElem?_map] at hj
  cases hq : l[j]? with
  | none => rw [hq] at hj; simp at hj
  | some x =>
    rw [hq] at hj
    rw [addr_add, hcs j (List.getElem?_eq_some_iff.1 hq).1, hq]; simpa using hj

/-- v is a row of the call's own (from block base on) that holds l. -/
def OwnI (e : TypeId) (base : Nat) (w : World) (v : Value) (l : List Int) : Prop := w.ownsRow base e 1 v l.length (l.map (Value.int .i64))
theorem OwnI.ints {e base : Nat} {w : World} {v : Value} {l : List Int} (h : OwnI e base w v l) : Ints w v l := Ints.of_own h rfl
theorem OwnI.carry {e base : Nat} {w w' : World} {v : Value} {l : List Int} (h : OwnI e base w v l) (hb : Below w.heap.size w w') : OwnI e base w' v l := own_below h hb
theorem OwnI.base {e base b : Nat} {w : World} {v : Value} {l : List Int} (h : OwnI e base w v l) (hb : b ≤ base) : OwnI e b w v l := by
  obtain ⟨h1, h2⟩ := h
  refine ⟨h1, ?_⟩
  rcases h2 with h2 | ⟨g, cap, cur, hv, hg, r⟩
  · exact .inl h2
  · exact .inr ⟨g, cap, cur, hv, by omega, r⟩
theorem OwnI.new (w : World) (e : TypeId) (l : List Int) (n : Nat) (hn : n = l.length) (hm : l.length ≤ maxLen) : OwnI e w.heap.size (w.alloc (.cells (ia l) e)) (.slice (some ⟨w.heap.size, 0, none⟩) n n) l := by
  subst hn
  exact ⟨by simp, .inr ⟨_, _, _, rfl, Nat.le_refl _, heap_alloc_new w _, Nat.le_refl _, hm, by simp [ia], by simp [ia]; exact List.take_of_length_le (by simp)⟩⟩

/-- block B holds l from its first cell on, and may be written. -/
def Cells (w : World) (B : Nat) (l : List Int) : Prop := ∀ j, j < l.length → w.cell? ⟨B, j, none⟩ = some (.int .i64 (l[j]?.getD 0)) ∧ w.frozen? ⟨B, j, none⟩ = false

theorem Cells.new (w : World) (T : TypeId) (l : List Int) : Cells (w.alloc (.cells (ia l) T)) w.heap.size l := fun j hj => ⟨ia_cell w T l j hj, ia_frozen w T l j⟩
theorem Cells.below {w w' : World} {B n : Nat} {l : List Int} (h : Cells w B l) (hb : Below n w w') (hn : B < n) : Cells w' B l := fun j hj =>
  ⟨(hb.cell (p := ⟨B, j, none⟩) hn).trans (h j hj).1, (hb.frozen (p := ⟨B, j, none⟩) hn).trans (h j hj).2⟩
theorem Cells.lt {w : World} {B : Nat} {l : List Int} (h : Cells w B l) (h0 : 0 < l.length) : B < w.heap.size := lt_of_cellSome (h 0 h0).1
theorem Cells.carry {w w' : World} {B : Nat} {l : List Int} (h : Cells w B l) (hb : Below w.heap.size w w') : Cells w' B l := fun j hj =>
  have hn : B < w.heap.size := lt_of_cellSome (h j hj).1
  ⟨(hb.cell (p := ⟨B, j, none⟩) hn).trans (h j hj).1, (hb.frozen (p := ⟨B, j, none⟩) hn).trans (h j hj).2⟩
theorem Cells.set {w : World} {B : Nat} {l : List Int} (h : Cells w B l) (k : Nat) (hk : k < l.length) (x : Int) : Cells (w.setCell ⟨B, k, none⟩ (.int .i64 x)) B (l.set k x) := fun j hj => by
  rw [List.length_set] at hj
  refine ⟨?_, by rw [World.frozen?_setCell]; exact (h j hj).2⟩
  by_cases hjk : j = k
  · subst hjk
    rw [World.cell?_setCell_same' _ _ _ (by rw [(h j hj).1]; rfl)]
    simp [hj]
  · rw [World.cell?_setCell_other _ _ _ _ (by simp), (h j hj).1]
    rw [List.getElem?_set_ne (by omega)]
theorem Cells.ints {w : World} {B : Nat} {l : List Int} (h : Cells w B l) (n : Nat) (hn : n = l.length) : Ints w (.slice (some ⟨B, 0, none⟩) n n) l := by
  subst hn
  exact ⟨_, _, rfl, Nat.le_refl _, fun _ => ⟨_, _, rfl, fun j hj => by rw [Nat.zero_add]; exact (h j hj).1⟩⟩

/-- block B has these cells, of type T, and may be written. -/
def Blk (w : World) (B : Nat) (T : TypeId) (vs : List Value) : Prop := w.heap[B]? = some (.cells vs.toArray T (0, 0))

theorem Blk.lt {w : World} {B : Nat} {T : TypeId} {vs : List Value} (h : Blk w B T vs) : B < w.heap.size := (Array.getElem?_eq_some_iff.1 h).1
theorem Blk.cell {w : World} {B : Nat} {T : TypeId} {vs : List Value} (h : Blk w B T vs) {j : Nat} {v : Value} (hj : vs[j]? = some v) : w.cell? ⟨B, j, none⟩ = some v := by
  simp [World.cell?, show w.heap[B]? = _ from h, hj]
theorem Blk.frozen {w : World} {B : Nat} {T : TypeId} {vs : List Value} (h : Blk w B T vs) (j : Nat) : w.frozen? ⟨B, j, none⟩ = false := by
  simp [World.frozen?, show w.heap[B]? = _ from h]
theorem Blk.new (w : World) (T : TypeId) (vs : List Value) : Blk (w.alloc (.cells vs.toArray T)) w.heap.size T vs := World.alloc_heap_new w _
theorem Blk.below {w w' : World} {B n : Nat} {T : TypeId} {vs : List Value} (h : Blk w B T vs) (hb : Below n w w') (hn : B < n) : Blk w' B T vs := (hb.block B hn).trans h
theorem Blk.carry {w w' : World} {B : Nat} {T : TypeId} {vs : List Value} (h : Blk w B T vs) (hb : Below w.heap.size w w') : Blk w' B T vs := h.below hb h.lt
theorem Blk.kept {w w' : World} {row : Option Nat} {B : Nat} {T : TypeId} {vs : List Value} (h : Blk w B T vs) (hg : w.grownBy w' row) (hne : some B ≠ row) : Blk w' B T vs := (hg.block B h.lt hne).trans h
theorem Blk.set {w : World} {B : Nat} {T : TypeId} {vs : List Value} (h : Blk w B T vs) (j : Nat) (v : Value) : Blk (w.setCell ⟨B, j, none⟩ v) B T (vs.set j v) := by
  obtain ⟨hlt, hk⟩ := Array.getElem?_eq_some_iff.1 h
  show (w.heap.modify B _)[B]? = _
  rw [Array.getElem?_eq_getElem (by rw [Array.size_modify]; exact hlt), Array.getElem_modify_self, hk]
  simp
theorem Blk.other {w : World} {B B' j : Nat} {T : TypeId} {vs : List Value} (h : Blk w B T vs) (hne : B ≠ B') (v : Value) : Blk (w.setCell ⟨B', j, none⟩ v) B T vs :=
  (Below.heap_setCell _ _ _ _ hne).trans h
theorem Blk.boxed {w : World} {B : Nat} {T : TypeId} {v : Value} (h : Blk w B T [v]) : Boxed w B T v := h
theorem Boxed.blk {w : World} {B : Nat} {T : TypeId} {v : Value} (h : Boxed w B T v) : Blk w B T [v] := h
/-- a block of another type is another block. -/
theorem Blk.ne {w : World} {B B' : Nat} {T T' : TypeId} {vs vs' : List Value} (h : Blk w B T vs) (h' : Blk w B' T' vs') (hT : T ≠ T') : B ≠ B' := by
  rintro rfl
  have := h.symm.trans h'
  simp at this
  exact hT this.2

/-- block B holds the integers l. -/
abbrev BlkI (w : World) (B : Nat) (T : TypeId) (l : List Int) : Prop := Blk w B T (l.map (Value.int .i64))
theorem BlkI.new (w : World) (T : TypeId) (l : List Int) : BlkI (w.alloc (.cells (ia l) T)) w.heap.size T l := Blk.new w T _
theorem BlkI.cell {w : World} {B : Nat} {T : TypeId} {l : List Int} (h : BlkI w B T l) {j : Nat} (hj : j < l.length) : w.cell? ⟨B, j, none⟩ = some (.int .i64 (l[j]?.getD 0)) := Blk.cell h (by simp [hj])
theorem BlkI.set {w : World} {B : Nat} {T : TypeId} {l : List Int} (h : BlkI w B T l) (j : Nat) (x : Int) : BlkI (w.setCell ⟨B, j, none⟩ (.int .i64 x)) B T (l.set j x) := by
  have := Blk.set h j (.int .i64 x)
  rwa [← List.map_set] at this
theorem BlkI.own {w : World} {B n : Nat} {T : TypeId} {l : List Int} (h : BlkI w B T l) (base : Nat) (hB : base ≤ B) (hn : n = l.length) (hm : l.length ≤ maxLen) : OwnI T base w (.slice (some ⟨B, 0, none⟩) n n) l := by
  subst hn
  exact ⟨by simp, .inr ⟨_, _, _, rfl, hB, h, Nat.le_refl _, hm, by simp, by simp; exact List.take_of_length_le (by simp)⟩⟩
theorem BlkI.ints {w : World} {B n : Nat} {T : TypeId} {l : List Int} (h : BlkI w B T l) (hn : n = l.length) : Ints w (.slice (some ⟨B, 0, none⟩) n n) l := by
  subst hn
  exact ⟨_, _, rfl, Nat.le_refl _, fun _ => ⟨_, _, rfl, fun j hj => by rw [Nat.zero_add]; exact h.cell hj⟩⟩
end

end Go.Proofs.Ytipmjjnhdjcoiaa

/- Words on rows of pairs, maps and sorting (those of package valve's texts, with no function of that package in them). Printed by gen/gvw.py. -/
import Derived.Test.YtipmjjnhdjcoiaaVaA
import Derived.Test.YtipmjjnhdjcoiaaOrdE
import Derived.Maps.Own
import Derived.Maps.OwnOps
import Derived.Maps.OwnSet
import Derived.Maps.Views
import Derived.Maps.GroupsBeside
import Derived.Maps.RangeWalk
import Derived.Maps.AppendAt
import Derived.Laws.RangeAny
import Derived.Lib.AppendZerosOnto
import Derived.Lib.Walk
import Derived.Test.YtipmjjnhdjcoiaaSort
namespace Go.Proofs.Ytipmjjnhdjcoiaa
set_option linter.unusedSimpArgs false
set_option linter.unusedVariables false
open Go.RowKit Go.Maps Go.Sort Go.ChangeShapes
attribute [local go_sem] Oper.semAt_some

/-- the slice v holds l: each member in n cells, as f says. -/
def Rw {α : Type} (n : Nat) (f : α → List Value) (w : World) (v : Value) (l : List α) : Prop :=
  ∃ a cap, v = .slice a l.length cap ∧ l.length ≤ cap ∧ (0 < l.length → ∃ b off, a = some ⟨b, off, none⟩ ∧ ∀ (j : Nat) (x : α), l[j]? = some x → ∀ (i : Nat) (u : Value), (f x)[i]? = some u → w.cell? ⟨b, off + j * n + i, none⟩ = some u)
theorem Rw.carry {α : Type} {n : Nat} {f : α → List Value} {w w' : World} {v : Value} {l : List α} (h : Rw n f w v l) (hb : Below w.heap.size w w') : Rw n f w' v l := by
  obtain ⟨a, cap, hv, hc, h⟩ := h
  refine ⟨a, cap, hv, hc, fun hl => ?_⟩
  obtain ⟨b, off, ha, h⟩ := h hl
  exact ⟨b, off, ha, fun j x hj i u hi => cellb (h j x hj i u hi) hb⟩
theorem Rw.head {α : Type} {n : Nat} {f : α → List Value} {w : World} {v : Value} {l : List α} (h : Rw n f w v l) (h0 : 0 < l.length) : ∃ b off cap, v = .slice (some ⟨b, off, none⟩) l.length cap ∧ ∀ (j : Nat) (x : α), l[j]? = some x → ∀ (i : Nat) (u : Value), (f x)[i]? = some u → w.cell? ⟨b, off + j * n + i, none⟩ = some u := by
  obtain ⟨a, cap, rfl, _, hc⟩ := h
  obtain ⟨b, off, rfl, hd⟩ := hc h0
  exact ⟨b, off, cap, rfl, hd⟩
theorem Rw.slice {α : Type} {n : Nat} {f : α → List Value} {w : World} {v : Value} {l : List α} (h : Rw n f w v l) : ∃ a cap, v = .slice a l.length cap ∧ l.length ≤ cap := by
  obtain ⟨a, cap, hv, hc, _⟩ := h
  exact ⟨a, cap, hv, hc⟩
theorem Rw.nil {α : Type} (n : Nat) (f : α → List Value) (w : World) (a : Option Addr) (cap : Nat) : Rw n f w (.slice a 0 cap) [] := ⟨a, cap, rfl, Nat.zero_le _, fun h => by simp at h⟩
theorem flat_len {α : Type} {n : Nat} {f : α → List Value} (hf : ∀ x, (f x).length = n) (l : List α) : (l.flatMap f).length = l.length * n := by
  induction l with
  | nil => simp
  | cons x l ih => rw [List.flatMap_cons, List.length_append, ih, hf, List.length_cons, Nat.add_mul, Nat.one_mul, Nat.add_comm]
theorem flat_get {α : Type} {n : Nat} {f : α → List Value} (hf : ∀ x, (f x).length = n) (l : List α) (j : Nat) (x : α) (hj : l[j]? = some x) (i : Nat) (u : Value) (hi : (f x)[i]? = some u) : (l.flatMap f)[j * n + i]? = some u := by
  induction l generalizing j with
  | nil => simp at hj
  | cons y l ih =>
    rw [List.flatMap_cons]
    cases j with
    | zero =>
      simp at hj; subst hj
      rw [Nat.zero_mul, Nat.zero_add, List.getElem?_append_left (List.getElem?_eq_some_iff.1 hi).1]
      exact hi
    | succ j =>
      have := ih j (by simpa using hj)
      rw [List.getElem?_append_right (by rw [hf, Nat.add_mul]; omega), hf]
      rw [show (j + 1) * n + i - n = j * n + i by rw [Nat.add_mul]; omega]
      exact this
theorem Rw.of_own {α : Type} {n : Nat} {f : α → List Value} (hf : ∀ x, (f x).length = n) {w : World} {base : Nat} {e : TypeId} {v : Value} {m : Nat} {l : List α} (h : w.ownsRow base e n v m (l.flatMap f)) (hm : m = l.length) : Rw n f w v l := by
  subst hm
  rcases h.2 with ⟨hv, hn⟩ | ⟨g, cap, cur, hv, _, hg, hc, _, hcs, ht⟩
  · exact ⟨none, 0, by rw [hv, hn], by omega, fun h0 => by omega⟩
  · refine ⟨some ⟨g, 0, none⟩, cap, hv, hc, fun _ => ⟨g, 0, rfl, fun j x hj i u hi => ?_⟩⟩
    have hk := flat_get hf l j x hj i u hi
    have hlt : j * n + i < l.length * n := by
      have := (List.getElem?_eq_some_iff.1 hk).1
      rwa [flat_len hf] at this
    have e := congrArg (fun x : List Value => x[j * n + i]?) ht
    simp only [List.getElem?_take] at e
    rw [if_pos hlt, hk] at e
    have : cur[j * n + i]? = some u := by rw [← Array.getElem?_toList]; exact e
    rw [Nat.zero_add]
    simp [World.cell?, hg, this]
/-- a block of the call's own, as a slice. -/
theorem Rw.of_blk {α : Type} {n : Nat} {f : α → List Value} (hf : ∀ x, (f x).length = n) {w : World} {B : Nat} {T : TypeId} {l : List α} (h : Blk w B T (l.flatMap f)) (m c : Nat) (hm : m = l.length) (hc : m ≤ c) : Rw n f w (.slice (some ⟨B, 0, none⟩) m c) l := by
  subst hm
  refine ⟨_, _, rfl, hc, fun _ => ⟨B, 0, rfl, fun j x hj i u hi => ?_⟩⟩
  rw [Nat.zero_add]
  exact h.cell (flat_get hf l j x hj i u hi)
theorem Rw.take {α : Type} {n : Nat} {f : α → List Value} {w : World} {b off cap : Nat} {l : List α} (h : Rw n f w (.slice (some ⟨b, off, none⟩) l.length cap) l) (k : Nat) (hk : k ≤ l.length) : Rw n f w (.slice (some ⟨b, off, none⟩) k cap) (l.take k) := by
  obtain ⟨a, c, e, hc, h⟩ := h
  simp only [Value.slice.injEq] at e
  obtain ⟨rfl, _, rfl⟩ := e
  have hlen : (l.take k).length = k := by rw [List.length_take]; omega
  refine ⟨some ⟨b, off, none⟩, cap, by rw [hlen], by omega, fun h0 => ?_⟩
  obtain ⟨b', off', e, h⟩ := h (by omega)
  simp only [Option.some.injEq, Addr.mk.injEq] at e
  obtain ⟨rfl, rfl, _⟩ := e
  refine ⟨b, off, rfl, fun j x hj i u hi => h j x ?_ i u hi⟩
  rw [List.getElem?_take] at hj
  split at hj
  · exact hj
  · cases hj
theorem Rw.drop {α : Type} {n : Nat} {f : α → List Value} {w : World} {b off cap : Nat} {l : List α} (h : Rw n f w (.slice (some ⟨b, off, none⟩) l.length cap) l) (k : Nat) (hk : k ≤ l.length) : Rw n f w (.slice (some ⟨b, off + k * n, none⟩) (l.length - k) (cap - k)) (l.drop k) := by
  obtain ⟨a, c, e, hc, h⟩ := h
  simp only [Value.slice.injEq] at e
  obtain ⟨rfl, _, rfl⟩ := e
  refine ⟨some ⟨b, off + k * n, none⟩, cap - k, by rw [List.length_drop], by rw [List.length_drop]; omega, fun h0 => ?_⟩
  rw [List.length_drop] at h0
  obtain ⟨b', off', e, h⟩ := h (by omega)
  simp only [Option.some.injEq, Addr.mk.injEq] at e
  obtain ⟨rfl, rfl, _⟩ := e
  refine ⟨b, off + k * n, rfl, fun j x hj i u hi => ?_⟩
  rw [List.getElem?_drop] at hj
  have := h (k + j) x hj i u hi
  rwa [show off + (k + j) * n + i = off + k * n + j * n + i by rw [Nat.add_mul]; omega] at this
theorem rw1 {α : Type} {f : α → List Value} {w : World} {b off : Nat} {j : Nat} {x : α} (h : ∀ (i : Nat) (u : Value), (f x)[i]? = some u → w.cell? ⟨b, off + j * 1 + i, none⟩ = some u) {u0 : Value} (hx : f x = [u0]) : w.cell? ⟨b, off + j, none⟩ = some u0 := by
  have := h 0 u0 (by rw [hx]; rfl)
  rwa [Nat.mul_one, Nat.add_zero] at this
theorem rw2 {α : Type} {n : Nat} {f : α → List Value} {w : World} {b off : Nat} {j : Nat} {x : α} (h : ∀ (i : Nat) (u : Value), (f x)[i]? = some u → w.cell? ⟨b, off + j * n + i, none⟩ = some u) {u0 u1 : Value} (hx : f x = [u0, u1]) : w.cell? ⟨b, off + j * n, none⟩ = some u0 ∧ w.cell? ⟨b, off + j * n + 1, none⟩ = some u1 :=
  ⟨h 0 u0 (by rw [hx]; rfl), h 1 u1 (by rw [hx]; rfl)⟩
theorem rw3 {α : Type} {n : Nat} {f : α → List Value} {w : World} {b off : Nat} {j : Nat} {x : α} (h : ∀ (i : Nat) (u : Value), (f x)[i]? = some u → w.cell? ⟨b, off + j * n + i, none⟩ = some u) {u0 u1 u2 : Value} (hx : f x = [u0, u1, u2]) : w.cell? ⟨b, off + j * n, none⟩ = some u0 ∧ w.cell? ⟨b, off + j * n + 1, none⟩ = some u1 ∧ w.cell? ⟨b, off + j * n + 2, none⟩ = some u2 :=
  ⟨h 0 u0 (by rw [hx]; rfl), h 1 u1 (by rw [hx]; rfl), h 2 u2 (by rw [hx]; rfl)⟩
theorem rw4 {α : Type} {n : Nat} {f : α → List Value} {w : World} {b off : Nat} {j : Nat} {x : α} (h : ∀ (i : Nat) (u : Value), (f x)[i]? = some u → w.cell? ⟨b, off + j * n + i, none⟩ = some u) {u0 u1 u2 u3 : Value} (hx : f x = [u0, u1, u2, u3]) : w.cell? ⟨b, off + j * n, none⟩ = some u0 ∧ w.cell? ⟨b, off + j * n + 1, none⟩ = some u1 ∧ w.cell? ⟨b, off + j * n + 2, none⟩ = some u2 ∧ w.cell? ⟨b, off + j * n + 3, none⟩ = some u3 :=
  ⟨h 0 u0 (by rw [hx]; rfl), h 1 u1 (by rw [hx]; rfl), h 2 u2 (by rw [hx]; rfl), h 3 u3 (by rw [hx]; rfl)⟩
/-- two integers, three integers, in cells. -/
abbrev P2 : Type := Int × Int
def pV (x : P2) : List Value := [.int .i64 x.1, .int .i64 x.2]
theorem pV_len (x : P2) : (pV x).length = 2 := rfl
abbrev Prs (w : World) (v : Value) (l : List P2) : Prop := Rw 2 pV w v l
/-- the first error of the members of a list. -/
def eachE {α : Type} (g : Nat → α → Int) (l : List α) : Int := firstE (l.mapIdx g)
theorem eachE_step {α : Type} {g : Nat → α → Int} {l : List α} {k : Nat} {x : α} (hx : l[k]? = some x) (h : firstE ((l.mapIdx g).take k) = 0) : firstE ((l.mapIdx g).take (k + 1)) = g k x := by
  have hlt : k < l.length := (List.getElem?_eq_some_iff.1 hx).1
  rw [firstE_take_succ _ k (by rw [List.length_mapIdx]; exact hlt) h, List.getElem?_mapIdx, hx]; rfl
theorem eachE_stop {α : Type} {g : Nat → α → Int} {l : List α} {k : Nat} {x : α} (hx : l[k]? = some x) (h : firstE ((l.mapIdx g).take k) = 0) (hne : g k x ≠ 0) : eachE g l = g k x := by
  have hs := eachE_step hx h
  unfold eachE
  rw [firstE_of_take _ (k + 1) (by rw [hs]; exact hne), hs]
theorem eachE_end {α : Type} {g : Nat → α → Int} {l : List α} (h : firstE ((l.mapIdx g).take l.length) = 0) : eachE g l = 0 := by
  unfold eachE
  rwa [List.take_of_length_le (by rw [List.length_mapIdx]; exact Nat.le_refl _)] at h
/-- the first member for which g holds, or -1. -/
def findX {α : Type} (g : α → Bool) (l : List α) : Int := match l.findIdx? g with | some i => (i : Int) | none => -1
theorem findX_none {α : Type} {g : α → Bool} {l : List α} (h : l.any g = false) : findX g l = -1 := by
  have : l.findIdx? g = none := by
    rw [List.findIdx?_eq_none_iff]; intro x hx; rw [List.any_eq_false] at h; simpa using h x hx
  simp [findX, this]
theorem findX_some {α : Type} {g : α → Bool} {l : List α} {k : Nat} {x : α} (hk : l[k]? = some x) (h : (l.take k).any g = false) (hx : g x = true) : findX g l = (k : Int) := by
  have hlt : k < l.length := (List.getElem?_eq_some_iff.1 hk).1
  have : l.findIdx? g = some k := by
    rw [List.findIdx?_eq_some_iff_getElem]
    refine ⟨hlt, by rw [(List.getElem?_eq_some_iff.1 hk).2]; exact hx, fun j hj => ?_⟩
    rw [List.any_eq_false] at h
    have hm : l[j] ∈ l.take k := by
      rw [List.mem_take_iff_getElem]; exact ⟨j, by omega, rfl⟩
    simpa using h _ hm
  simp [findX, this]
theorem findX_ge {α : Type} (g : α → Bool) (l : List α) : decide (0 ≤ findX g l) = l.any g := by
  unfold findX
  cases h : l.findIdx? g with
  | none =>
    have : l.any g = false := by
      rw [List.findIdx?_eq_none_iff] at h
      rw [List.any_eq_false]; intro x hx; rw [h x hx]; simp
    simp [this]
  | some i =>
    rw [List.findIdx?_eq_some_iff_getElem] at h
    obtain ⟨hlt, hg, _⟩ := h
    have : l.any g = true := List.any_eq_true.2 ⟨_, List.getElem_mem hlt, hg⟩
    simp [this]
theorem anyX_take_succ {α : Type} {g : α → Bool} {l : List α} {k : Nat} {x : α} (hk : l[k]? = some x) (h : (l.take k).any g = false) (hx : g x = false) : (l.take (k + 1)).any g = false := by
  rw [List.take_add_one, hk, List.any_append, h]; simp [hx]
theorem Blk.news {w : World} {G : Nat} {T : TypeId} {vs : List Value} (h : Blk w G T vs) (j : Nat) (u : Value) (hj : vs[j]? = some u) : w.cell? ((⟨G, 0, none⟩ : Addr).add j) = some u := by
  rw [addr_add, Nat.zero_add]; exact h.cell hj
theorem flatMap_take_succ {α β : Type} (h : β → List Value) (g : α → β) (l : List α) (k : Nat) (x : α) (hk : l[k]? = some x) : ((l.take (k + 1)).map g).flatMap h = ((l.take k).map g).flatMap h ++ h (g x) := by
  rw [List.take_add_one, hk, List.map_append, List.flatMap_append]; simp
/-- a row of the call's own that holds l. -/
def OwR {β : Type} (w : World) (base e m : Nat) (h : β → List Value) (v : Value) (l : List β) : Prop := w.ownsRow base e m v l.length (l.flatMap h)
theorem OwR.rw {β : Type} {w : World} {base e m : Nat} {h : β → List Value} {v : Value} {l : List β} (ho : OwR w base e m h v l) (hh : ∀ x, (h x).length = m) : Rw m h w v l := Rw.of_own hh ho rfl
theorem OwR.carry {β : Type} {w w' : World} {base e m : Nat} {h : β → List Value} {v : Value} {l : List β} (ho : OwR w base e m h v l) (hb : Below w.heap.size w w') : OwR w' base e m h v l := own_below ho hb
def nV (x : Int) : List Value := [.int .i64 x]
theorem nV_len (x : Int) : (nV x).length = 1 := rfl
theorem Rw.ints {w : World} {v : Value} {l : List Int} (h : Rw 1 nV w v l) : Ints w v l := by
  obtain ⟨a, cap, hv, hc, h⟩ := h
  refine ⟨a, cap, hv, hc, fun h0 => ?_⟩
  obtain ⟨b, off, ha, h⟩ := h h0
  refine ⟨b, off, ha, fun j hj => ?_⟩
  have := h j (l[j]) (List.getElem?_eq_getElem hj) 0 _ rfl
  rw [Nat.mul_one, Nat.add_zero] at this
  rw [this, List.getElem?_eq_getElem hj]; rfl
theorem Rw.of_ints {w : World} {v : Value} {l : List Int} (h : Ints w v l) : Rw 1 nV w v l := by
  obtain ⟨a, cap, hv, hc, h⟩ := h
  refine ⟨a, cap, hv, hc, fun h0 => ?_⟩
  obtain ⟨b, off, ha, h⟩ := h h0
  refine ⟨b, off, ha, fun j x hj i u hi => ?_⟩
  have hlt := (List.getElem?_eq_some_iff.1 hj).1
  have := h j hlt
  rw [hj] at this
  cases i with
  | zero => simp [nV] at hi; rw [Nat.mul_one, Nat.add_zero, this, ← hi]; rfl
  | succ i => simp [nV] at hi
theorem below_grow {w w1 : World} {base e size n : Nat} {v : Value} {xs : List Value} (hown : w.ownsRow base e size v n xs) (hb : base ≤ w.heap.size) (hgrow : w.grownBy w1 v.ownBlock) : Below base w w1 :=
  (Below.refl _ _).grown hgrow hb fun k hk => (hown.lt k hk).1
theorem Try.infZint : (Try.prog.info? 3).map (fun i => (i.zero, i.size, i.bytes)) = some (some (.int .i64 0), 1, 8) := by kernel_rfl
theorem Try.undZint : Try.prog.underlying 26 = some (.slice 3) := by kernel_rfl
theorem own_slice {w : World} {base e size n : Nat} {v : Value} {xs : List Value} (h : w.ownsRow base e size v n xs) : ∃ a c, v = .slice a n c := by
  rcases h.2 with ⟨h, h0⟩ | ⟨g, cap, cur, h, _⟩
  · exact ⟨none, 0, by rw [h, h0]⟩
  · exact ⟨_, _, h⟩
theorem grownD {A B : World} (h : Below A.heap.size A B) : A.grownBy B none := ⟨h.os, h.tape, h.output, h.size, fun k hk _ => h.block k hk⟩
theorem below_grown {H : Nat} {w A B : World} {row : Option Nat} (h : Below H w A) (hg : A.grownBy B row) (hr : ∀ r, row = some r → H ≤ r) (hs : H ≤ w.heap.size) : Below H w B :=
  h.trans ⟨hg.1, hg.2, hg.3, hg.size, fun k hk => hg.block k (by have := h.size; omega) (fun e => by have := hr k e.symm; omega)⟩
theorem bthenB {base : Nat} {w w1 w2 : World} (hb : base ≤ w.heap.size) (h1 : Below base w w1) (h2 : Below w1.heap.size w1 w2) : Below base w w2 := h1.trans (h2.mono (Nat.le_trans hb h1.size))
theorem Rw.takeA {α : Type} {n : Nat} {f : α → List Value} {w : World} {a : Option Addr} {N cap : Nat} {l : List α} (h : Rw n f w (.slice a N cap) l) (hN : N = l.length) (k : Nat) (hk : k ≤ N) : Rw n f w (.slice a k cap) (l.take k) := by
  subst hN
  obtain ⟨a', c, e, hc, h⟩ := h
  simp only [Value.slice.injEq] at e
  obtain ⟨rfl, _, rfl⟩ := e
  have hlen : (l.take k).length = k := by rw [List.length_take]; omega
  refine ⟨a, cap, by rw [hlen], by omega, fun h0 => ?_⟩
  obtain ⟨b, off, ha, h2⟩ := h (by omega)
  refine ⟨b, off, ha, fun j x hj i u hi => h2 j x ?_ i u hi⟩
  rw [List.getElem?_take] at hj
  split at hj
  · exact hj
  · cases hj
theorem Rw.dropA {α : Type} {n : Nat} {f : α → List Value} {w : World} {a : Option Addr} {N cap : Nat} {l : List α} (h : Rw n f w (.slice a N cap) l) (hN : N = l.length) (k : Nat) (hk : k ≤ N) : Rw n f w (.slice (a.map fun x => x.add (k * n)) (N - k) (cap - k)) (l.drop k) := by
  subst hN
  obtain ⟨a', c, e, hc, h⟩ := h
  simp only [Value.slice.injEq] at e
  obtain ⟨rfl, _, rfl⟩ := e
  refine ⟨_, cap - k, by rw [List.length_drop], by rw [List.length_drop]; omega, fun h0 => ?_⟩
  rw [List.length_drop] at h0
  obtain ⟨b, off, ha, h2⟩ := h (by omega)
  refine ⟨b, off + k * n, by rw [ha, Option.map_some, addr_add], fun j x hj i u hi => ?_⟩
  rw [List.getElem?_drop] at hj
  have := h2 (k + j) x hj i u hi
  rwa [show off + (k + j) * n + i = off + k * n + j * n + i by rw [Nat.add_mul]; omega] at this
/-- an empty slice appended: nothing. -/
theorem run_append_zero {P : Program} (w : World) (t ty e : TypeId) (i : TypeInfo) (z : Value) (ht : P.underlying t = some (.slice e)) (hi : P.info? e = some i) (hz : i.zero = some z) (a xa : Option Addr) (n cp c : Nat) (hn : n ≤ cp) (h63 : n ≤ maxLen) :
    (Builtin.append_ #[t, t] ty #[.slice a n cp, .slice xa 0 c]).run P w = .ok (.slice a n cp) w := by
  unfold maxLen at h63
  have hf : (Builtin.firstCells i.size 0 (.slice xa 0 c)).run P w = .ok #[] w := by
    cases xa with
    | none => exact run_firstCells_none w i.size 0 0 c
    | some a => exact run_firstCells_some w i.size 0 a 0 c [] (by simp) (by simp)
  cases a with
  | none => simp [Builtin.append_, run_underlying ht, sizeOf, typeInfo, hi, Builtin.lenOf, hf, storeCells, hn]
  | some b => simp [Builtin.append_, run_underlying ht, sizeOf, typeInfo, hi, Builtin.lenOf, hf, storeCells, hn]
theorem wpList_append_zero {P : Program} {ops : Array Oper} {rest : List Oper} {o : Oper} {a : Act} {w : World} {Q : Exit → Act → World → Prop} (hgd : o.guard = none) (s x : Operand) (t e : TypeId)
    (ho : o.op = .call { callee := .builtin .append, args := #[s, x], argTypes := #[t, t] })
    (i : TypeInfo) (z : Value) (ht : P.underlying t = some (.slice e)) (hi : P.info? e = some i) (hz : i.zero = some z)
    (sa xa : Option Addr) (n cp nx c : Nat) (hn : n ≤ cp) (h63 : n ≤ maxLen) (hs : a.eval s = .slice sa n cp) (hx : a.eval x = .slice xa nx c) (hnx : nx = 0)
    (h : wpList P ops Q rest (a.put o.dst (.slice sa n cp)) w) : wpList P ops Q (o :: rest) a w := by
  subst hnx
  refine wpList_plain hgd fun K hK => ?_
  have hr := run_append_zero (P := P) w t o.type e i z ht hi hz sa xa n cp c hn h63
  unfold Oper.wp execOp
  simp only [ho, resolve, invoke, builtin, Sem.run_bind, Sem.run_pure, Result.andThen_ok, List.map_toArray, List.map_cons, List.map_nil, hs, hx, hr]
  exact hK _ _ h
theorem own_cap {w : World} {base e size n : Nat} {a : Option Addr} {m c : Nat} {xs : List Value} (h : w.ownsRow base e size (.slice a m c) n xs) : m = n ∧ n ≤ c ∧ c ≤ maxLen := by
  rcases h.2 with ⟨h, h0⟩ | ⟨g, cap, cur, h, _, _, hnc, hcm, _⟩
  · simp only [Value.slice.injEq] at h
    obtain ⟨-, h1, h2⟩ := h
    unfold maxLen
    omega
  · simp only [Value.slice.injEq] at h
    obtain ⟨-, h1, h2⟩ := h
    subst h1; subst h2
    exact ⟨rfl, hnc, hcm⟩
/-- the cells of a list that a slice holds. -/
theorem Rw.src {α : Type} {n : Nat} {f : α → List Value} (hf : ∀ x, (f x).length = n) (hn : 0 < n) {w : World} {b off : Nat} {N cap : Nat} {l : List α} (h : Rw n f w (.slice (some ⟨b, off, none⟩) N cap) l) (h0 : 0 < l.length) (j : Nat) (u : Value) (hj : (l.flatMap f)[j]? = some u) : w.cell? ((⟨b, off, none⟩ : Addr).add j) = some u := by
  obtain ⟨b', off', cap', e, hc⟩ := h.head h0
  simp only [Value.slice.injEq, Option.some.injEq, Addr.mk.injEq] at e
  obtain ⟨⟨rfl, rfl, -⟩, -, -⟩ := e
  have hlt : j < l.length * n := by
    have := (List.getElem?_eq_some_iff.1 hj).1
    rwa [flat_len hf] at this
  have hd : j / n < l.length := Nat.div_lt_of_lt_mul (by rw [Nat.mul_comm]; exact hlt)
  obtain ⟨x, hx⟩ : ∃ x, l[j / n]? = some x := ⟨_, List.getElem?_eq_getElem hd⟩
  have hm : j / n * n + j % n = j := by rw [Nat.mul_comm]; exact Nat.div_add_mod j n
  have hml : j % n < (f x).length := by rw [hf]; exact Nat.mod_lt _ hn
  obtain ⟨y, hy⟩ : ∃ y, (f x)[j % n]? = some y := ⟨_, List.getElem?_eq_getElem hml⟩
  have h1 := flat_get hf l (j / n) x hx (j % n) y hy
  rw [hm, hj] at h1
  cases h1
  have := hc (j / n) x hx (j % n) u hy
  rw [addr_add]
  rwa [show off + j / n * n + j % n = off + j by omega] at this
theorem Rw.len {α : Type} {n : Nat} {f : α → List Value} {w : World} {a : Option Addr} {N cap : Nat} {l : List α} (h : Rw n f w (.slice a N cap) l) : N = l.length := by
  obtain ⟨a', c, e, -, -⟩ := h
  simp only [Value.slice.injEq] at e
  exact e.2.1
theorem pV_one (l : List P2) : ∀ v ∈ l.flatMap pV, v.oneCell' = true := fun v hv => by
  obtain ⟨x, _, hx⟩ := List.mem_flatMap.1 hv
  simp [pV] at hx
  rcases hx with rfl | rfl <;> rfl
theorem Try.keyInt : Keyed Try.prog 3 := int_keyed Try.underlying3
theorem Try.zeroInt (w : World) : (zeroValue 3).run Try.prog w = .ok (.int .i64 0) w := by kernel_rfl
theorem snoc_ind {α : Type} {p : List α → Prop} (h0 : p []) (h1 : ∀ l x, p l → p (l ++ [x])) (l : List α) : p l := by
  have : ∀ n, ∀ l : List α, l.length = n → p l := by
    intro n
    induction n with
    | zero => intro l h; rw [List.length_eq_zero_iff.1 h]; exact h0
    | succ n ih =>
      intro l h
      have hne : l ≠ [] := by rintro rfl; simp at h
      rw [← List.dropLast_concat_getLast hne]
      exact h1 _ _ (ih _ (by rw [List.length_dropLast]; omega))
  exact this _ l rfl
theorem lit_ne {a b : Int} (h : a ≠ b) : (Lit.int .i64 a) ≠ (Lit.int .i64 b) := by
  intro e; cases e; exact h rfl
theorem key_lit (a : Int) : WideAt.IsKeyLit (.int .i64 a) := by simp [WideAt.IsKeyLit]
/-- a tick among rising ones. -/
def insT (t : Int) : List Int → List Int
  | [] => [t]
  | x :: l => if t < x then t :: x :: l else if t = x then x :: l else x :: insT t l
theorem mem_insT (t x : Int) (l : List Int) : x ∈ insT t l ↔ x = t ∨ x ∈ l := by
  induction l with
  | nil => simp [insT]
  | cons y l ih =>
    unfold insT
    split
    · simp
    · split
      · rename_i h; subst h; simp
      · rw [List.mem_cons, ih, List.mem_cons]
        constructor
        · rintro (h | h | h)
          · exact .inr (.inl h)
          · exact .inl h
          · exact .inr (.inr h)
        · rintro (h | h | h)
          · exact .inr (.inl h)
          · exact .inl h
          · exact .inr (.inr h)
theorem insT_sorted (t : Int) (l : List Int) (h : l.Pairwise (· < ·)) : (insT t l).Pairwise (· < ·) := by
  induction l with
  | nil => simp [insT]
  | cons y l ih =>
    rw [List.pairwise_cons] at h
    unfold insT
    split
    · rw [List.pairwise_cons, List.pairwise_cons]
      refine ⟨fun z hz => ?_, h.1, h.2⟩
      rcases List.mem_cons.1 hz with e | e
      · subst e; assumption
      · have := h.1 z e; omega
    · split
      · rw [List.pairwise_cons]; exact h
      · rw [List.pairwise_cons]
        refine ⟨fun z hz => ?_, ih h.2⟩
        rw [mem_insT] at hz
        rcases hz with e | e
        · subst e; omega
        · exact h.1 z e
/-- the ticks of pulses, rising. -/
def ticksL (l : List P2) : List Int := l.foldr (fun p t => insT p.1 t) []
theorem mem_ticksL (l : List P2) (x : Int) : x ∈ ticksL l ↔ ∃ p ∈ l, p.1 = x := by
  induction l with
  | nil => simp [ticksL]
  | cons p l ih =>
    show x ∈ insT p.1 (ticksL l) ↔ _
    rw [mem_insT, ih]
    constructor
    · rintro (h | ⟨q, hq, h⟩)
      · exact ⟨p, by simp, h.symm⟩
      · exact ⟨q, by simp [hq], h⟩
    · rintro ⟨q, hq, h⟩
      rcases List.mem_cons.1 hq with e | e
      · subst e; exact .inl h.symm
      · exact .inr ⟨q, e, h⟩
theorem ticksL_sorted (l : List P2) : (ticksL l).Pairwise (· < ·) := by
  induction l with
  | nil => simp [ticksL]
  | cons p l ih => exact insT_sorted _ _ ih
/-- rising lists with the same members are one. -/
theorem rise_eq {l m : List P2} (hl : l.Pairwise (fun x y => x.1 < y.1)) (hm : m.Pairwise (fun x y => x.1 < y.1)) (h : ∀ x, x ∈ l ↔ x ∈ m) : l = m := by
  induction l generalizing m with
  | nil =>
    cases m with
    | nil => rfl
    | cons y m => exact absurd ((h y).2 (by simp)) (by simp)
  | cons x l ih =>
    cases m with
    | nil => exact absurd ((h x).1 (by simp)) (by simp)
    | cons y m =>
      rw [List.pairwise_cons] at hl hm
      have hxy : x = y := by
        rcases List.mem_cons.1 ((h x).1 (by simp)) with e | e
        · exact e
        · rcases List.mem_cons.1 ((h y).2 (by simp)) with e2 | e2
          · exact e2.symm
          · have := hm.1 x e
            have := hl.1 y e2
            omega
      subst hxy
      congr 1
      refine ih hl.2 hm.2 fun z => ?_
      constructor
      · intro hz
        rcases List.mem_cons.1 ((h z).1 (by simp [hz])) with e | e
        · subst e; have := hl.1 z hz; omega
        · exact e
      · intro hz
        rcases List.mem_cons.1 ((h z).2 (by simp [hz])) with e | e
        · subst e; have := hm.1 z hz; omega
        · exact e
theorem sameKey_int (a b : Int) : (Lit.int .i64 a).sameKey (.int .i64 b) = decide (a = b) := by simp [Lit.sameKey]
theorem wp_append_own_at {P : Program} {o : Oper} {a : Act} {w : World} {K : Act → World → Prop} {Q : Exit → Act → World → Prop} (s x : Operand) (t : TypeId)
    (ho : o.op = .call { callee := .builtin .append, args := #[s, x], argTypes := #[t, t] })
    (base : Nat) (e : TypeId) (i : TypeInfo) (z : Value) (size bytes : Nat) (ht : P.underlying t = some (.slice e)) (hi : P.info? e = some i) (hz : i.zero = some z)
    (hsize : i.size = size) (hby : i.bytes = bytes) (hzs : z.cells.size = size) (hsz : 0 < size)
    (v : Value) (n : Nat) (xs : List Value) (hs : a.eval s = v) (hown : w.ownsRow base e size v n xs)
    (ad : Addr) (m c : Nat) (news : List Value) (hx : a.eval x = .slice (some ad) m c) (hl : news.length = m * size) (hnews : ∀ j u, news[j]? = some u → w.cell? (ad.add j) = some u) (h1 : ∀ u ∈ news, u.oneCell' = true)
    (h63 : n + m ≤ maxLen) (hbytes : (n + m) * bytes ≤ 140737488355328) (hbase : base ≤ w.heap.size)
    (h : ∀ v' w', w'.ownsRow base e size v' (n + m) (xs ++ news) → w.grownBy w' v.ownBlock → (v'.ownBlock = v.ownBlock ∨ v'.ownBlock = some w.heap.size) → K (a.put o.dst v') w') : o.wp P a w K Q := by
  obtain ⟨v', w', hr, h2, h3, _, h5⟩ := run_append_own_at (P := P) w base t o.type e i z size bytes ht hi hz hsize hby hzs hsz v n xs hown ad m c news hl hnews h1 h63 hbytes hbase
  unfold Oper.wp execOp
  simp only [ho, resolve, invoke, builtin, Sem.run_bind, Sem.run_pure, Result.andThen_ok, List.map_toArray, List.map_cons, List.map_nil, hs, hx, hr]
  exact h v' w' h2 h3 h5
theorem below_none {A B : World} (h : A.grownBy B none) : Below A.heap.size A B := ⟨h.os, h.tape, h.output, h.size, fun k hk => h.block k hk (by simp)⟩
theorem own_keptN {w w' : World} {base e size n r : Nat} {v : Value} {xs : List Value} (h : w.ownsRow base e size v n xs) (hg : w.grownBy w' (some r)) (ho : ∃ o : Obj, w.heap[r]? = some o ∧ o.isCells = false) : w'.ownsRow base e size v n xs := by
  refine ⟨h.1, ?_⟩
  rcases h.2 with h2 | ⟨g, cap, cur, hv, hb, hh, hr⟩
  · exact .inl h2
  · refine .inr ⟨g, cap, cur, hv, hb, (hg.block g (Array.getElem?_eq_some_iff.1 hh).1 (fun e' => ?_)).trans hh, hr⟩
    obtain ⟨o, h1, h2⟩ := ho
    cases e'
    rw [hh] at h1
    cases h1
    cases h2
theorem own_ne_of {w : World} {base e size n r : Nat} {v : Value} {xs : List Value} (h : w.ownsRow base e size v n xs) (ho : ∃ o : Obj, w.heap[r]? = some o ∧ o.isCells = false) : some r ≠ v.ownBlock := by
  rcases h.2 with ⟨rfl, _⟩ | ⟨g, cap, cur, rfl, hb, hh, hr⟩
  · simp [Value.ownBlock]
  · intro e'
    obtain rfl : r = g := by simpa [Value.ownBlock] using e'
    obtain ⟨o, h1, h2⟩ := ho
    rw [hh] at h1
    cases h1
    cases h2
theorem isNaNI_any (x : Int) (w : World) : Calls Try.prog 82 #[.int .i64 x] w fun r w' => r = .returned (.bool false) ∧ w = w' := by
  go_enter Try.func82, Try.ntmps82
  go_wp2
  go_ret
  exact ⟨ret_bool (by simp), rfl⟩
/-- cmp.Compare. -/
def cmpI (x y : Int) : Int := if x < y then -1 else if y < x then 1 else 0
set_option maxHeartbeats 400000 in
theorem CompareI_any (x y : Int) (w : World) : Calls Try.prog 58 #[.int .i64 x, .int .i64 y] w fun r w' => r = .returned (.int .i64 (cmpI x y)) ∧ w = w' := by
  by_cases h1 : x < y
  · have H := Lib.hid (show cmpI x y = -1 by simp [cmpI, h1])
    generalize cmpI x y = r at H ⊢
    go_enter Try.func58, Try.ntmps58
    go_wp2_with fail
    refine (isNaNI_any _ _).mono ?_
    rintro e w' ⟨rfl, rfl⟩
    go_wp2_with fail
    refine (isNaNI_any _ _).mono ?_
    rintro e w' ⟨rfl, rfl⟩
    go_wp2
    go_ret
    exact ⟨ret_int H.out.symm, rfl⟩
  · by_cases h2 : y < x
    · have H := Lib.hid (show cmpI x y = 1 by simp [cmpI, h1, h2])
      generalize cmpI x y = r at H ⊢
      go_enter Try.func58, Try.ntmps58
      go_wp2_with fail
      refine (isNaNI_any _ _).mono ?_
      rintro e w' ⟨rfl, rfl⟩
      go_wp2_with fail
      refine (isNaNI_any _ _).mono ?_
      rintro e w' ⟨rfl, rfl⟩
      go_wp2
      go_ret
      exact ⟨ret_int H.out.symm, rfl⟩
    · have H := Lib.hid (show cmpI x y = 0 by simp [cmpI, h1, h2])
      generalize cmpI x y = r at H ⊢
      go_enter Try.func58, Try.ntmps58
      go_wp2_with fail
      refine (isNaNI_any _ _).mono ?_
      rintro e w' ⟨rfl, rfl⟩
      go_wp2_with fail
      refine (isNaNI_any _ _).mono ?_
      rintro e w' ⟨rfl, rfl⟩
      go_wp2
      go_ret
      exact ⟨ret_int H.out.symm, rfl⟩
def cmpP (x y : P2) : Int := cmpI x.1 y.1
theorem ltP (x y : P2) : ltOf cmpP x y = decide (x.1 < y.1) := by
  unfold ltOf cmpP cmpI
  by_cases h1 : x.1 < y.1
  · simp [h1]
  · by_cases h2 : y.1 < x.1 <;> simp [h1, h2]
theorem swoP : SWO (ltOf cmpP) where
  irrefl x := by rw [ltP]; simp
  trans x y z h1 h2 := by rw [ltP] at *; simp at *; omega
  ntrans x y z h1 h2 := by rw [ltP] at *; simp at *; omega
theorem grow2 (w : World) (o o' : Obj) : ∃ q os', (w.alloc o).alloc o' = Go.Sort.grow (w.drewN q) os' := ⟨0, _, by rw [alloc_eq_grow, alloc_eq_grow, grow_grow]; rfl⟩
theorem below_mapBlock {B blk : Nat} {w0 w : World} (h : Below B w0 w) (hb : B ≤ blk) (f : Array Value → Array Value) : Below B w0 (mapBlock w blk f) :=
  h.trans ⟨rfl, rfl, rfl, by simp [mapBlock], fun k hk => by simp [mapBlock, Array.getElem?_modify]; omega⟩
theorem below_growS {B : Nat} {w0 w : World} (h : Below B w0 w) (hb : B ≤ w.heap.size) (os : Array Obj) : Below B w0 (Go.Sort.grow w os) :=
  h.trans ⟨rfl, rfl, rfl, by simp [Go.Sort.grow], fun k hk => by
    show (w.heap ++ os)[k]? = w.heap[k]?
    rw [Array.getElem?_append_left (by omega)]⟩
theorem below_sortK {B blk off n : Nat} {w0 w : World} (h : Below B w0 w) (hb : B ≤ blk) (hlt : blk < w.heap.size) (d : Array P2) (os : Array Obj) : Below B w0 (sortWorldK pV 2 w blk off n d os) := by
  have h1 : Below B w0 (Sort.ahead w n) := h.trans ⟨rfl, rfl, rfl, Nat.le_refl _, fun _ _ => rfl⟩
  have h2 := below_mapBlock h1 hb (putCells id off (flatK pV 2 d))
  refine below_growS h2 ?_ os
  have e : (mapBlock (Sort.ahead w n) blk (putCells id off (flatK pV 2 d))).heap.size = w.heap.size := by simp [mapBlock, Sort.ahead]
  omega
theorem holds_own {w : World} {g : Nat} {cur : Array Value} {T : TypeId} {l : List P2} (hh : w.heap[g]? = some (.cells cur T (0, 0))) (ht : cur.toList.take (l.length * 2) = l.flatMap pV) : HoldsK pV 2 w g 0 l.toArray := fun j hj => by
  have hj2 : j < l.length * 2 := by simpa using hj
  have hx : j / 2 < l.length := by omega
  have hm : j % 2 < 2 := Nat.mod_lt _ (by decide)
  have h1 := flat_get pV_len l (j / 2) l[j / 2] (List.getElem?_eq_getElem hx) (j % 2) (pV l[j / 2])[j % 2] (List.getElem?_eq_getElem (by rw [pV_len]; exact hm))
  rw [show j / 2 * 2 + j % 2 = j by omega] at h1
  have e := congrArg (fun x : List Value => x[j]?) ht
  simp only [List.getElem?_take] at e
  rw [if_pos hj2, h1] at e
  have hc : cur[j]? = some ((pV l[j / 2])[j % 2]'(by rw [pV_len]; exact hm)) := by rw [← Array.getElem?_toList]; exact e
  have hf : (flatK pV 2 l.toArray)[j]! = (pV l[j / 2])[j % 2]'(by rw [pV_len]; exact hm) := by
    rw [get_flatK _ _ _ _ (by simpa using hj2)]
    have : l.toArray[j / 2]! = l[j / 2] := by rw [getElem!_pos _ (j / 2) (by simpa using hx)]; simp
    rw [this, getElem!_pos _ (j % 2) (by rw [pV_len]; exact hm)]
  refine ⟨?_, ?_⟩
  · rw [Nat.zero_add, hf]
    simp [World.cell?, hh, hc]
  · simp [World.frozen?, hh]
theorem rw_holds {w : World} {g cap : Nat} {l : List P2} (h : HoldsK pV 2 w g 0 l.toArray) (hc : l.length ≤ cap) : Prs w (.slice (some ⟨g, 0, none⟩) l.length cap) l := by
  refine ⟨_, cap, rfl, hc, fun _ => ⟨g, 0, rfl, fun j x hj i u hi => ?_⟩⟩
  have hlt := (List.getElem?_eq_some_iff.1 hj).1
  have hi2 : i < 2 := by have := (List.getElem?_eq_some_iff.1 hi).1; rwa [pV_len] at this
  have h1 := (h (j * 2 + i) (by simp; omega)).1
  rw [get_flatK _ _ _ _ (by simp; omega)] at h1
  rw [show (j * 2 + i) / 2 = j by omega, show (j * 2 + i) % 2 = i by omega] at h1
  have e1 : l.toArray[j]! = x := by
    rw [getElem!_pos _ j (by simpa using hlt)]
    have := (List.getElem?_eq_some_iff.1 hj).2
    simpa using this
  rw [e1, getElem!_pos _ i (by rw [pV_len]; exact hi2)] at h1
  have e2 : (pV x)[i]'(by rw [pV_len]; exact hi2) = u := (List.getElem?_eq_some_iff.1 hi).2
  rw [e2] at h1
  rw [Nat.zero_add] at h1 ⊢
  exact h1
theorem perm_of_in {d d' : Array P2} (h : PermIn 0 d.size d d') : d'.toList.Perm d.toList := by
  obtain ⟨h1, _, h3⟩ := h
  have e1 : (d'.extract 0 d.size) = d' := by rw [← h1]; simp
  have e2 : (d.extract 0 d.size) = d := by simp
  rwa [e1, e2] at h3
theorem sorted_of_in {d : Array P2} {n : Nat} (h : SortedIn (ltOf cmpP) 0 n d) (hn : n = d.size) : d.toList.Pairwise (fun x y => x.1 ≤ y.1) := by
  rw [List.pairwise_iff_getElem]
  intro i j hi hj hij
  have := h i j (Nat.zero_le _) hij (by rw [hn]; simpa using hj)
  rw [ltP, decide_eq_false_iff_not] at this
  rw [getElem!_pos d i (by simpa using hi), getElem!_pos d j (by simpa using hj)] at this
  simp only [Array.getElem_toList]
  omega
theorem pV_cell (x : P2) : ∀ v ∈ pV x, v.oneCell' = true := fun v hv => by
  simp [pV] at hv
  rcases hv with rfl | rfl <;> rfl
end Go.Proofs.Ytipmjjnhdjcoiaa

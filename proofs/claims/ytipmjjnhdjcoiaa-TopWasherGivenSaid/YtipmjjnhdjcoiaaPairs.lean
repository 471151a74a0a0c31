/- the rows of a table: when a row fails, and the row after a row. -/
import Derived.Test.YtipmjjnhdjcoiaaBlk
namespace Go.Proofs.Ytipmjjnhdjcoiaa
open Go.RowKit Go.Shelf

/-- the greater of a number and its opposite. -/
def absW (x : Int) : Int := max x (wrap64 (-x))
/-- does a row fail? -/
def failsB (l : List Int) : Bool := decide (absW (l[l.length - 1]?.getD 0) ≤ absW (l[0]?.getD 0))

/-- the row after a row. -/
def nextAt (l : List Int) (i : Nat) : Int := wrap64 (wrap64 (l[l.length - 1]?.getD 0 * l[i + 1]?.getD 0) - wrap64 (l[0]?.getD 0 * l[l.length - 2 - i]?.getD 0))
def nextL (l : List Int) : List Int := upto (nextAt l) (l.length - 1)

section
attribute [local go_sem] Oper.semAt_some

/-- the k-th row. -/
def rowK (p : List Int) : Nat → List Int
  | 0 => p
  | k + 1 => nextL (rowK p k)
theorem rowK_length (p : List Int) (k : Nat) : (rowK p k).length = p.length - k := by
  induction k with
  | zero => rfl
  | succ k ih => rw [rowK, nextL, upto_length, ih]; omega
/-- the rows from one on. -/
def tableL : Nat → List Int → List (List Int)
  | 0, _ => []
  | f + 1, r => if r.length ≤ 1 then [] else if failsB r then [r] else r :: tableL f (nextL r)
def tableW (p : List Int) : List (List Int) := tableL p.length p
theorem tableL_stop (f : Nat) (r : List Int) (h : r.length ≤ 1) : tableL f r = [] := by
  cases f with
  | zero => rfl
  | succ f => rw [tableL, if_pos h]
theorem tableL_upto (p : List Int) (k : Nat) (h : ∀ j, j < k → failsB (rowK p j) = false) (hk : k < p.length) : tableW p = upto (rowK p) k ++ tableL (p.length - k) (rowK p k) := by
  induction k with
  | zero => simp [upto, tableW, rowK]
  | succ k ih =>
    rw [ih (fun j hj => h j (by omega)) (by omega), upto_succ, show p.length - k = (p.length - (k + 1)) + 1 from by omega, tableL, if_neg (by rw [rowK_length]; omega), h k (by omega)]
    simp [rowK]
theorem table_done (p : List Int) (k : Nat) (h : ∀ j, j < k → failsB (rowK p j) = false) (hk : k ≤ p.length) (hs : (rowK p k).length ≤ 1) : tableW p = upto (rowK p) k := by
  rcases Nat.lt_or_ge k p.length with hlt | hge
  · rw [tableL_upto p k h hlt, tableL_stop _ _ hs, List.append_nil]
  · cases k with
    | zero => rw [tableW, tableL_stop _ _ (by omega)]; rfl
    | succ k =>
      rw [tableL_upto p k (fun j hj => h j (by omega)) (by omega), tableL_stop _ _ (by rw [rowK_length]; omega), List.append_nil]
      rcases Nat.eq_zero_or_pos p.length with h0 | h0
      · omega
      · exfalso
        have := h k (by omega)
        have hl := rowK_length p k
        rw [show p.length - k = 1 from by omega] at hl
        match hq : rowK p k, hl with
        | [x], _ => rw [hq] at this; simp [failsB] at this
theorem table_fails (p : List Int) (k : Nat) (h : ∀ j, j < k → failsB (rowK p j) = false) (hk : 1 < (rowK p k).length) (hf : failsB (rowK p k) = true) : tableW p = upto (rowK p) (k + 1) := by
  have hl := rowK_length p k
  rw [tableL_upto p k h (by omega), show p.length - k = (p.length - k - 1) + 1 from by omega, tableL, if_neg (by omega), if_pos hf, upto_succ]

/-- the blocks of integers are kept. -/
def KInt (A B : World) : Prop := ∀ (b : Nat) (c : Array Value), A.heap[b]? = some (.cells c 3 (0, 0)) → B.heap[b]? = some (.cells c 3 (0, 0))
theorem KInt.trans {A B C : World} (h : KInt A B) (k : KInt B C) : KInt A C := fun b c hc => k b c (h b c hc)
theorem KInt.turn (W : World) (l : Nat) (o o' : Obj) (h : W.heap[l]? = some o) (h1 : o.isCells = false) : KInt W (W.putObj l o') := fun b c hc => by
  by_cases e : b = l
  · subst e; rw [hc] at h; cases h; cases h1
  · exact (World.putObj_heap_other e).trans hc
theorem OwnI.kint {base : Nat} {A B : World} {v : Value} {l : List Int} (h : OwnI 3 base A v l) (k : KInt A B) : OwnI 3 base B v l := by
  obtain ⟨h1, h2⟩ := h
  refine ⟨h1, ?_⟩
  rcases h2 with h2 | ⟨g, cap, cur, hv, hg, hh, r⟩
  · exact .inl h2
  · exact .inr ⟨g, cap, cur, hv, hg, k _ _ hh, r⟩
theorem grown_of_below {A B : World} (h : Below A.heap.size A B) : A.grownBy B none := ⟨h.os, h.tape, h.output, h.size, fun k hk _ => h.block k hk⟩

end

open Go.RowKit

/-- the slice v has the cells us. -/
def Vals (w : World) (v : Value) (us : List Value) : Prop :=
  ∃ a cap, v = .slice a us.length cap ∧ us.length ≤ cap ∧ (0 < us.length → ∃ b off, a = some ⟨b, off, none⟩ ∧ ∀ j u, us[j]? = some u → w.cell? ⟨b, off + j, none⟩ = some u)

theorem Vals.carry {w w' : World} {v : Value} {us : List Value} (h : Vals w v us) (hb : Below w.heap.size w w') : Vals w' v us := by
  obtain ⟨a, cap, hv, hc, h⟩ := h
  refine ⟨a, cap, hv, hc, fun hl => ?_⟩
  obtain ⟨b, off, ha, h⟩ := h hl
  exact ⟨b, off, ha, fun j u hj => (hb.cell (p := ⟨b, off + j, none⟩) (lt_of_cellSome (h j u hj))).trans (h j u hj)⟩
theorem Vals.head {w : World} {v : Value} {us : List Value} (h : Vals w v us) (h0 : 0 < us.length) : ∃ b off cap, v = .slice (some ⟨b, off, none⟩) us.length cap ∧ ∀ j u, us[j]? = some u → w.cell? ⟨b, off + j, none⟩ = some u := by
  obtain ⟨a, cap, rfl, _, hc⟩ := h
  obtain ⟨b, off, rfl, hd⟩ := hc h0
  exact ⟨b, off, cap, rfl, hd⟩
theorem Vals.nil (w : World) : Vals w (.slice none 0 0) [] := ⟨none, 0, rfl, by simp, fun h => by simp at h⟩
theorem Vals.of_own {w : World} {base e : Nat} {v : Value} {us : List Value} (h : w.ownsRow base e 1 v us.length us) : Vals w v us := by
  obtain ⟨h1, h2⟩ := h
  rcases h2 with ⟨rfl, h2⟩ | ⟨g, cap, cur, rfl, hg, hh, hnc, hcap, hcs, htk⟩
  · exact ⟨none, 0, by rw [h2], by omega, fun h => by omega⟩
  · refine ⟨some ⟨g, 0, none⟩, cap, rfl, hnc, fun hl => ⟨g, 0, rfl, fun j u hj => ?_⟩⟩
    rw [Nat.mul_one] at htk
    rw [← htk, List.getElem?_take] at hj
    split at hj
    · rw [Array.getElem?_toList] at hj
      simp [World.cell?, hh, hj]
    · cases hj
theorem Vals.ints {w : World} {v : Value} {l : List Int} (h : Vals w v (l.map (Value.int .i64))) : Ints w v l := by
  obtain ⟨a, cap, hv, hc, h⟩ := h
  rw [List.length_map] at hv hc h
  exact ⟨a, cap, hv, hc, fun hl => by obtain ⟨b, off, ha, h⟩ := h hl; exact ⟨b, off, ha, fun j hj => h j _ (by simp [hj])⟩⟩
theorem Ints.vals {w : World} {v : Value} {l : List Int} (h : Ints w v l) : Vals w v (l.map (Value.int .i64)) := by
  obtain ⟨a, cap, hv, hc, h⟩ := h
  refine ⟨a, cap, by rw [List.length_map]; exact hv, by rw [List.length_map]; exact hc, fun hl => ?_⟩
  rw [List.length_map] at hl
  obtain ⟨b, off, ha, h⟩ := h hl
  refine ⟨b, off, ha, fun j u hj => ?_⟩
  rw [List.getElem?_map] at hj
  cases hq : l[j]? with
  | none => rw [hq] at hj; cases hj
  | some x =>
    rw [hq] at hj
    have := h j (List.getElem?_eq_some_iff.1 hq).1
    rw [hq] at this
    rw [this]; exact hj

/-- the slice v holds slices that hold the lists ll. -/
def RowsOf (w : World) (v : Value) (ll : List (List Int)) : Prop := ∃ us : List Value, Vals w v us ∧ us.length = ll.length ∧ ∀ (j : Nat) (u : Value) (l : List Int), us[j]? = some u → ll[j]? = some l → Ints w u l
theorem RowsOf.carry {w w' : World} {v : Value} {ll : List (List Int)} (h : RowsOf w v ll) (hb : Below w.heap.size w w') : RowsOf w' v ll := by
  obtain ⟨us, h1, h2, h3⟩ := h
  exact ⟨us, h1.carry hb, h2, fun j u l hu hl => (h3 j u l hu hl).carry hb⟩
theorem RowsOf.nil (w : World) : RowsOf w (.slice none 0 0) [] := ⟨[], Vals.nil w, rfl, fun j u l h => by simp at h⟩

theorem Blk.stable {β : Type} {H B : Nat} (h : B < H) (T : TypeId) (f : β → List Value) : StableFrom H (fun (s : β) W => Blk W B T (f s)) := fun s A B' row hs hg hr =>
  (hg.block B (Blk.lt hs) (fun e => by have := hr B e.symm; omega)).trans hs

/-- what reads cells alone abides the turn of a block that is no cells. -/
theorem Vals.kept {A B : World} {row : Option Nat} {v : Value} {us : List Value} (h : Vals A v us) (hg : A.grownBy B row) (hr : ∀ r, row = some r → ∃ o : Obj, A.heap[r]? = some o ∧ o.isCells = false) : Vals B v us := by
  obtain ⟨a, cap, hv, hc, h⟩ := h
  refine ⟨a, cap, hv, hc, fun hl => ?_⟩
  obtain ⟨b, off, ha, h⟩ := h hl
  exact ⟨b, off, ha, fun j u hj => cell_kept (h j u hj) hg hr⟩
theorem Ints.kept {A B : World} {row : Option Nat} {v : Value} {l : List Int} (h : Ints A v l) (hg : A.grownBy B row) (hr : ∀ r, row = some r → ∃ o : Obj, A.heap[r]? = some o ∧ o.isCells = false) : Ints B v l := (h.vals.kept hg hr).ints
theorem RowsOf.kept {A B : World} {row : Option Nat} {v : Value} {ll : List (List Int)} (h : RowsOf A v ll) (hg : A.grownBy B row) (hr : ∀ r, row = some r → ∃ o : Obj, A.heap[r]? = some o ∧ o.isCells = false) : RowsOf B v ll := by
  obtain ⟨us, h1, h2, h3⟩ := h
  exact ⟨us, h1.kept hg hr, h2, fun j u l hu hl => (h3 j u l hu hl).kept hg hr⟩

section
attribute [local go_sem] Oper.semAt_some

theorem kint_of_grown {A B : World} {row : Option Nat} (hg : A.grownBy B row) (hr : ∀ r, row = some r → ∃ o : Obj, A.heap[r]? = some o ∧ o.isCells = false) : KInt A B := fun b c hc => by
  refine (hg.block b (Array.getElem?_eq_some_iff.1 hc).1 (fun e => ?_)).trans hc
  obtain ⟨o, ho, h1⟩ := hr b e.symm
  rw [hc] at ho; cases ho; cases h1
theorem ownI_own {α : Type} (f : α → List (Value × List Int)) : Own (fun (s : α) W => ∀ x ∈ f s, OwnI 3 0 W x.1 x.2) := fun _ _ _ _ hs hg hr x hx => (hs x hx).kint (kint_of_grown hg hr)
theorem KInt.below {A B : World} (h : Below A.heap.size A B) : KInt A B := fun b _ hc => (h.block b (Array.getElem?_eq_some_iff.1 hc).1).trans hc
theorem KInt.set {A B : World} {b o : Nat} {T : TypeId} {c : Array Value} (h : KInt A B) (hb : B.heap[b]? = some (.cells c T (0, 0))) (hT : T ≠ 3) (v : Value) : KInt A (B.setCell ⟨b, o, none⟩ v) := fun b' c' hc => by
  refine (Below.heap_setCell _ _ _ _ ?_).trans (h b' c' hc)
  rintro rfl
  have := (h _ c' hc).symm.trans hb
  simp at this
  exact hT this.2.symm
theorem kint_append {A B : World} {base e n : Nat} {v : Value} {xs : List Value} {o : Obj} (h : A.ownsRow base e 1 v n xs) (he : e ≠ 3) (hg : (A.alloc o).grownBy B v.ownBlock) : KInt A B := fun b c hc => by
  have hc' : (A.alloc o).heap[b]? = some (.cells c 3 (0, 0)) := ((Below.refl A.heap.size A).alloc (Nat.le_refl _) o).block b (Array.getElem?_eq_some_iff.1 hc).1 |>.trans hc
  refine (hg.block b (Array.getElem?_eq_some_iff.1 hc').1 (fun e' => ?_)).trans hc'
  rcases h.2 with ⟨rfl, _⟩ | ⟨g, cap, cur, rfl, _, hgb, _⟩
  · simp [Value.ownBlock] at e'
  · obtain rfl : b = g := by simpa [Value.ownBlock] using e'
    have := hc.symm.trans hgb
    simp at this
    exact he this.2.symm

theorem tableL_length (f : Nat) (r : List Int) : (tableL f r).length ≤ f := by
  induction f generalizing r with
  | zero => simp [tableL]
  | succ f ih => unfold tableL; split; · simp
                 split; · simp
                 have := ih (nextL r); simp; omega

end

def findL {α : Type} (g : α → Bool) (l : List α) : Int := match l.findIdx? g with | some i => (i : Int) | none => -1
theorem findL_none {α : Type} {g : α → Bool} {l : List α} (h : l.any g = false) : findL g l = -1 := by
  have : l.findIdx? g = none := by
    rw [List.findIdx?_eq_none_iff]; intro x hx; exact (List.any_eq_false.1 h) x hx |> Bool.eq_false_iff.2
  simp [findL, this]
theorem findL_some {α : Type} {g : α → Bool} {l : List α} {k : Nat} {x : α} (hk : l[k]? = some x) (h : (l.take k).any g = false) (hx : g x = true) : findL g l = k := by
  have : l.findIdx? g = some k := by
    rw [List.findIdx?_eq_some_iff_getElem]
    obtain ⟨hlt, he⟩ := List.getElem?_eq_some_iff.1 hk
    refine ⟨hlt, by rw [he]; exact hx, fun j hj => ?_⟩
    have := List.any_eq_false.1 h (l[j]'(by omega)) (by rw [List.mem_take_iff_getElem]; exact ⟨j, by omega, rfl⟩)
    simpa using this
  simp [findL, this]
theorem findL_ge {α : Type} (g : α → Bool) (l : List α) : decide (0 ≤ findL g l) = l.any g := by
  unfold findL
  cases h : l.findIdx? g with
  | none =>
    have : l.any g = false := by
      rw [List.findIdx?_eq_none_iff] at h
      rw [List.any_eq_false]; intro x hx; rw [h x hx]; simp
    simp [this]
  | some i =>
    rw [List.findIdx?_eq_some_iff_getElem] at h
    obtain ⟨hlt, hg, _⟩ := h
    have : l.any g = true := List.any_eq_true.2 ⟨_, List.getElem_mem hlt, hg⟩
    simp [this]
theorem anyL_take_succ {α : Type} {g : α → Bool} {l : List α} {k : Nat} {x : α} (hk : l[k]? = some x) (h : (l.take k).any g = false) (hx : g x = false) : (l.take (k + 1)).any g = false := by
  rw [List.take_add_one, hk, List.any_append, h]; simp [hx]

theorem table_mem {p l : List Int} (h : l ∈ tableW p) : 1 < l.length ∧ l.length ≤ p.length := by
  have key : ∀ (f : Nat) (r : List Int), l ∈ tableL f r → 1 < l.length ∧ l.length ≤ r.length := by
    intro f
    induction f with
    | zero => intro r h; simp [tableL] at h
    | succ f ih =>
      intro r h
      unfold tableL at h
      split at h
      · simp at h
      · split at h
        · obtain rfl := List.mem_singleton.1 h; omega
        · rcases List.mem_cons.1 h with rfl | h
          · omega
          · have := ih _ h
            rw [nextL, upto_length] at this
            omega
  exact key _ p h

def stableB (p : List Int) : Bool := !(tableW p).any failsB

/-- the slice v holds the pairs l. -/
def Pairs (w : World) (v : Value) (l : List (Int × Int)) : Prop :=
  ∃ a cap, v = .slice a l.length cap ∧ l.length ≤ cap ∧ (0 < l.length → ∃ b off, a = some ⟨b, off, none⟩ ∧ ∀ (j : Nat) (x : Int × Int), l[j]? = some x → w.cell? ⟨b, off + j * 2, none⟩ = some (.int .i64 x.1) ∧ w.cell? ⟨b, off + j * 2 + 1, none⟩ = some (.int .i64 x.2))
theorem Pairs.carry {w w' : World} {v : Value} {l : List (Int × Int)} (h : Pairs w v l) (hb : Below w.heap.size w w') : Pairs w' v l := by
  obtain ⟨a, cap, hv, hc, h⟩ := h
  refine ⟨a, cap, hv, hc, fun hl => ?_⟩
  obtain ⟨b, off, ha, h⟩ := h hl
  exact ⟨b, off, ha, fun j x hj => ⟨cellb (h j x hj).1 hb, cellb (h j x hj).2 hb⟩⟩
theorem Pairs.head {w : World} {v : Value} {l : List (Int × Int)} (h : Pairs w v l) (h0 : 0 < l.length) : ∃ b off cap, v = .slice (some ⟨b, off, none⟩) l.length cap ∧ ∀ (j : Nat) (x : Int × Int), l[j]? = some x → w.cell? ⟨b, off + j * 2, none⟩ = some (.int .i64 x.1) ∧ w.cell? ⟨b, off + j * 2 + 1, none⟩ = some (.int .i64 x.2) := by
  obtain ⟨a, cap, rfl, _, hc⟩ := h
  obtain ⟨b, off, rfl, hd⟩ := hc h0
  exact ⟨b, off, cap, rfl, hd⟩

theorem first2d (a b : Int) (T : TypeId) (w : World) :
    Calls Try.prog 50 #[.slice (some ⟨w.heap.size, 0, none⟩) 2 2] (w.alloc (.cells #[.int .i64 a, .int .i64 b] T)).drew fun r w' => r = .returned (.int .i64 (firstE [a, b])) ∧ (w.alloc (.cells #[.int .i64 a, .int .i64 b] T)).drew = w' :=
  first_any _ [a, b] _ (by simp [maxLen]) (Ints.lit w T [a, b] 2 rfl).drew
theorem first3d (a b c : Int) (T : TypeId) (w : World) :
    Calls Try.prog 50 #[.slice (some ⟨w.heap.size, 0, none⟩) 3 3] (w.alloc (.cells #[.int .i64 a, .int .i64 b, .int .i64 c] T)).drew fun r w' => r = .returned (.int .i64 (firstE [a, b, c])) ∧ (w.alloc (.cells #[.int .i64 a, .int .i64 b, .int .i64 c] T)).drew = w' :=
  first_any _ [a, b, c] _ (by simp [maxLen]) (Ints.lit w T [a, b, c] 3 rfl).drew

def boxE (x : Int × Int) : Int := firstE [coefE x.1, coefE x.2, whenE (decide (x.2 < x.1)) 11]

def manyW (l : List (Int × Int)) : Nat → Int
  | 0 => 1
  | k + 1 => wrap64 (manyW l k * wrap64 (wrap64 ((l[k]?.getD (0, 0)).2 - (l[k]?.getD (0, 0)).1) + 1))

def intervalsE (l : List (Int × Int)) : Int := firstE (l.map boxE)

end Go.Proofs.Ytipmjjnhdjcoiaa

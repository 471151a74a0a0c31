/- Slices whose elements fill one cell each; slices of slices of integers. -/
import Derived.Test.YtnlmaildmeihgaaGreatDoorLoopO
namespace Go.Proofs.YtnlmaildmeihgaaGreatDoor
open Go.RowKit

/-- the slice v has the cells us. -/
def Vals (w : World) (v : Value) (us : List Value) : Prop :=
  ∃ a cap, v = .slice a us.length cap ∧ us.length ≤ cap ∧ (0 < us.length → ∃ b off, a = some ⟨b, off, none⟩ ∧ ∀ j u, us[j]? = some u → w.cell? ⟨b, off + j, none⟩ = some u)

theorem Vals.carry {w w' : World} {v : Value} {us : List Value} (h : Vals w v us) (hb : Below w.heap.size w w') : Vals w' v us := by
  obtain ⟨a, cap, hv, hc, h⟩ := h
  refine ⟨a, cap, hv, hc, fun hl => ?_⟩
  obtain ⟨b, off, ha, h⟩ := h hl
  exact ⟨b, off, ha, fun j u hj => (hb.cell (p := ⟨b, off + j, none⟩) (lt_of_cellSome (h j u hj))).trans (h j u hj)⟩
theorem Vals.head {w : World} {v : Value} {us : List Value} (h : Vals w v us) (h0 : 0 < us.length) : ∃ b off cap, v = .slice (some ⟨b, off, none⟩) us.length cap ∧ ∀ j u, us[j]? = some u → w.cell? ⟨b, off + j, none⟩ = some u := by
  obtain ⟨a, cap, rfl, _, hc⟩ := h
  obtain ⟨b, off, rfl, hd⟩ := hc h0
  exact ⟨b, off, cap, rfl, hd⟩
theorem Vals.nil (w : World) : Vals w (.slice none 0 0) [] := ⟨none, 0, rfl, by simp, fun h => by simp at h⟩
theorem Vals.of_own {w : World} {base e : Nat} {v : Value} {us : List Value} (h : w.ownsRow base e 1 v us.length us) : Vals w v us := by
  obtain ⟨h1, h2⟩ := h
  rcases h2 with ⟨rfl, h2⟩ | ⟨g, cap, cur, rfl, hg, hh, hnc, hcap, hcs, htk⟩
  · exact ⟨none, 0, by rw [h2], by omega, fun h => by omega⟩
  · refine ⟨some ⟨g, 0, none⟩, cap, rfl, hnc, fun hl => ⟨g, 0, rfl, fun j u hj => ?_⟩⟩
    rw [Nat.mul_one] at htk
    rw [← htk, List.getElem?_take] at hj
    split at hj
    · rw [Array.getElem?_toList] at hj
      simp [World.cell?, hh, hj]
    · cases hj
theorem Vals.ints {w : World} {v : Value} {l : List Int} (h : Vals w v (l.map (Value.int .i64))) : Ints w v l := by
  obtain ⟨a, cap, hv, hc, h⟩ := h
  rw [List.length_map] at hv hc h
  exact ⟨a, cap, hv, hc, fun hl => by obtain ⟨b, off, ha, h⟩ := h hl; exact ⟨b, off, ha, fun j hj => h j _ (by simp [hj])⟩⟩
theorem Ints.vals {w : World} {v : Value} {l : List Int} (h : Ints w v l) : Vals w v (l.map (Value.int .i64)) := by
  obtain ⟨a, cap, hv, hc, h⟩ := h
  refine ⟨a, cap, by rw [List.length_map]; exact hv, by rw [List.length_map]; exact hc, fun hl => ?_⟩
  rw [List.length_map] at hl
  obtain ⟨b, off, ha, h⟩ := h hl
  refine ⟨b, off, ha, fun j u hj => ?_⟩
  rw [List.getElem?_map] at hj
  cases hq : l[j]? with
  | none => rw [hq] at hj; cases hj
  | some x =>
    rw [hq] at hj
    have := h j (List.getElem?_eq_some_iff.1 hq).1
    rw [hq] at this
    rw [this]; exact hj

/-- the slice v holds slices that hold the lists ll. -/
def RowsOf (w : World) (v : Value) (ll : List (List Int)) : Prop := ∃ us : List Value, Vals w v us ∧ us.length = ll.length ∧ ∀ (j : Nat) (u : Value) (l : List Int), us[j]? = some u → ll[j]? = some l → Ints w u l
theorem RowsOf.carry {w w' : World} {v : Value} {ll : List (List Int)} (h : RowsOf w v ll) (hb : Below w.heap.size w w') : RowsOf w' v ll := by
  obtain ⟨us, h1, h2, h3⟩ := h
  exact ⟨us, h1.carry hb, h2, fun j u l hu hl => (h3 j u l hu hl).carry hb⟩
theorem RowsOf.nil (w : World) : RowsOf w (.slice none 0 0) [] := ⟨[], Vals.nil w, rfl, fun j u l h => by simp at h⟩

theorem Blk.stable {β : Type} {H B : Nat} (h : B < H) (T : TypeId) (f : β → List Value) : StableFrom H (fun (s : β) W => Blk W B T (f s)) := fun s A B' row hs hg hr =>
  (hg.block B (Blk.lt hs) (fun e => by have := hr B e.symm; omega)).trans hs

/-- what reads cells alone abides the turn of a block that is no cells. -/
theorem Vals.kept {A B : World} {row : Option Nat} {v : Value} {us : List Value} (h : Vals A v us) (hg : A.grownBy B row) (hr : ∀ r, row = some r → ∃ o : Obj, A.heap[r]? = some o ∧ o.isCells = false) : Vals B v us := by
  obtain ⟨a, cap, hv, hc, h⟩ := h
  refine ⟨a, cap, hv, hc, fun hl => ?_⟩
  obtain ⟨b, off, ha, h⟩ := h hl
  exact ⟨b, off, ha, fun j u hj => cell_kept (h j u hj) hg hr⟩
theorem Ints.kept {A B : World} {row : Option Nat} {v : Value} {l : List Int} (h : Ints A v l) (hg : A.grownBy B row) (hr : ∀ r, row = some r → ∃ o : Obj, A.heap[r]? = some o ∧ o.isCells = false) : Ints B v l := (h.vals.kept hg hr).ints
theorem RowsOf.kept {A B : World} {row : Option Nat} {v : Value} {ll : List (List Int)} (h : RowsOf A v ll) (hg : A.grownBy B row) (hr : ∀ r, row = some r → ∃ o : Obj, A.heap[r]? = some o ∧ o.isCells = false) : RowsOf B v ll := by
  obtain ⟨us, h1, h2, h3⟩ := h
  exact ⟨us, h1.kept hg hr, h2, fun j u l hu hl => (h3 j u l hu hl).kept hg hr⟩

end Go.Proofs.YtnlmaildmeihgaaGreatDoor

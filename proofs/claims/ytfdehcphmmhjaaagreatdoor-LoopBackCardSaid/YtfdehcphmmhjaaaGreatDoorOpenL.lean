/- Arguments of the rows, opened: a loop (four lists in a struct), a box (pairs). -/
import Derived.Test.YtfdehcphmmhjaaaGreatDoorRowBaL
import Derived.Lib.SmallJoins
import Derived.Deep.SlicePairs
namespace Go.Proofs.YtfdehcphmmhjaaaGreatDoor
open Go.ChangeShapes Go.WideShapes Go.ChangeAt Go.RowKit
set_option linter.unusedVariables false

set_option maxRecDepth 100000 in
theorem ints_of_trod {H : Type} {enc : TypeId × Value → H} {W : World} {T : TypeId} {fuel : Nat} {v : Value} {x : DataW H × List MemPlace} (hT : Tryz.prog.underlying T = some (.slice 3))
    (hf : DataW.trod enc Tryz.prog W 0 (fun _ => true) true fuel T [v] = some x) : ∃ l : List Int, Ints W v l ∧ ∀ x ∈ l, (Lit.int .i64 x).wf = true := by
  have hi : Tryz.prog.underlying 3 = some (.int .i64) := by kernel_rfl
  have hc : Tryz.prog.cellsOf 3 = 1 := by kernel_rfl
  rcases open_ints hT hi hc hf with ⟨hcs, hx⟩ | ⟨a, len, cap, zs, hcs, _, hl, hm, hz, hx, hcell, hwz⟩
  · simp at hcs
    subst hcs
    exact ⟨[], Ints.nil W, fun x hx => by simp at hx⟩
  · simp at hcs
    subst hcs
    simp only [if_true] at hz
    refine ⟨zs.take len, ⟨some a, cap, by rw [List.length_take, hz, Nat.min_eq_left hl], by rw [List.length_take, hz, Nat.min_eq_left hl]; exact hl, fun h0 => ?_⟩, fun x hx => hwz x (List.mem_of_mem_take hx)⟩
    rw [List.length_take, hz, Nat.min_eq_left hl] at h0
    obtain ⟨b, off, spot⟩ := a
    have hspot : spot = none := by simpa [Addr.add] using World.cell?_spot (hcell 0 (by omega))
    subst hspot
    refine ⟨b, off, rfl, fun j hj => ?_⟩
    rw [List.length_take, hz, Nat.min_eq_left hl] at hj
    have := hcell j (by omega)
    rw [addr_add] at this
    rw [this, List.getElem?_take, if_pos hj]
    rfl

set_option maxRecDepth 100000 in
theorem open_loopArg {H : Type} {enc : TypeId × Value → H} {W : World} {r : Reach} {b0 : Nat} {v : Value} {d : DataW H} {p : List MemPlace}
    (hval : Value.okWide Tryz.prog W r b0 24 v) (hd : DataW.Trod enc Tryz.prog W 0 (fun _ => true) true 24 v d p) :
    ∃ (va vb vc vd : Value) (a b c d : List Int), v = .agg #[va, vb, vc, vd] ∧ Ints W va a ∧ Ints W vb b ∧ Ints W vc c ∧ Ints W vd d := by
  obtain ⟨v0, v1, v2, v3, y0, y1, y2, y3, n, rfl, _, _, h0, h1, h2, h3⟩ := Go.Joins.open_agg4 Tryz.underlying24 (by kernel_rfl) (by kernel_rfl) hval hd
  obtain ⟨a, i0, _⟩ := ints_of_trod Tryz.underlying22 h0
  obtain ⟨b, i1, _⟩ := ints_of_trod Tryz.underlying22 h1
  obtain ⟨c, i2, _⟩ := ints_of_trod Tryz.underlying22 h2
  obtain ⟨d, i3, _⟩ := ints_of_trod Tryz.underlying22 h3
  exact ⟨v0, v1, v2, v3, a, b, c, d, rfl, i0, i1, i2, i3⟩

set_option maxRecDepth 100000 in
theorem open_pairsArg {H : Type} {enc : TypeId × Value → H} {W : World} {r : Reach} {b0 : Nat} {v : Value} {d : DataW H} {p : List MemPlace}
    (hval : Value.okWide Tryz.prog W r b0 71 v) (hd : DataW.Trod enc Tryz.prog W 0 (fun _ => true) true 71 v d p) : ∃ l : List (Int × Int), Pairs W v l := by
  have hi : Tryz.prog.underlying 3 = some (.int .i64) := by kernel_rfl
  have hc : Tryz.prog.cellsOf 3 = 1 := by kernel_rfl
  obtain ⟨a0, len, cap, rfl⟩ := okWide_slice Tryz.underlying71 hval
  obtain ⟨fuel, hf⟩ := hd
  rcases Go.Deep.open_slice_pairs Tryz.underlying71 Tryz.underlying70 (by kernel_rfl) rfl rfl hc hc hf with ⟨hcs, hx⟩ | ⟨a, len', cap', m, n, V0, V1, D0, D1, P0, P1, hcs, _, hl, hm, hmm, hx, hcell⟩
  · simp [Value.cells] at hcs
    obtain ⟨rfl, rfl, rfl⟩ := hcs
    exact ⟨[], none, 0, rfl, Nat.le_refl _, fun h => by simp at h⟩
  · simp [Value.cells] at hcs
    obtain ⟨rfl, rfl, rfl⟩ := hcs
    simp only [if_true] at hmm
    subst hmm
    have each : ∀ i, i < m → ∃ q : Int × Int, W.cell? (a.add (i * 2)) = some (.int .i64 q.1) ∧ W.cell? (a.add (i * 2 + 1)) = some (.int .i64 q.2) := fun i hi' => by
      obtain ⟨e0, e1, t0, t1⟩ := hcell i hi'
      obtain ⟨x, x0, _, _⟩ := DataW.trod_int hi t0
      obtain ⟨y, y0, _, _⟩ := DataW.trod_int hi t1
      simp at x0 y0
      exact ⟨(x, y), by rw [e0, x0], by rw [e1, y0]⟩
    obtain ⟨q, hq⟩ := Go.Deep.choose_lt each
    refine ⟨(List.range len).map q, some a, m, by simp, by simpa using hl, fun h0 => ?_⟩
    simp at h0
    obtain ⟨b, off, spot⟩ := a
    have hspot : spot = none := by simpa [Addr.add] using World.cell?_spot (hq 0 (by omega)).1
    subst hspot
    refine ⟨b, off, rfl, fun j x hj => ?_⟩
    have hjl := (List.getElem?_eq_some_iff.1 hj).1
    simp at hjl
    rw [List.getElem?_map, List.getElem?_range hjl] at hj
    cases hj
    obtain ⟨h1, h2⟩ := hq j (by omega)
    rw [addr_add] at h1 h2
    exact ⟨h1, by rw [← Nat.add_assoc] at h2; exact h2⟩

end Go.Proofs.YtfdehcphmmhjaaaGreatDoor

/- What the row TopThimbleTelegrams needs: the listed variables' cells, the world in which the door lays them, the argument of rows. -/
import Derived.Test.YtjmdnolmaofbiaaDoorLawTho
import Derived.Test.YtjmdnolmaofbiaaDoorRows
import Derived.WalkKit
import Derived.ProofKit
import Derived.LaidMore
import Derived.OpenShut
import Derived.Stop.Joined
import Derived.ChangeSame
import Derived.ChangeOld
import Derived.Below
import Derived.Lib.LaidTab
import Derived.Deep.Matrix
import Derived.Deep.SlicePairs
namespace Go.Proofs.YtjmdnolmaofbiaaDoor
section
open Go.ChangeShapes Go.WideShapes Go.ChangeAt Go.RowKit
set_option linter.unusedVariables false

theorem own : ownKnob Tryd.prog.godebug = none := by kernel_rfl
theorem laidOut : laidOutB Tryd.prog = true := by kernel_rfl

/-- the door's own heap meets the condition. -/
theorem door_met (os : Os) (args : Array Value) : laidMetH Tryd.prog Rows.topThimbleTelegramsRow.laid ((World.doorLaid Tryd.prog 400 os).forCall (fun _ _ => 0) ⟨#[], args, []⟩).memory :=
  laidMetH_of_parts3 (fuel := 8) (laidMet_of_run' 8 (by kernel_rfl) (by kernel_rfl)) (by kernel_rfl) (by kernel_rfl)

set_option maxRecDepth 100000 in
theorem eisen_of_trod {H : Type} {enc : TypeId × Value → H} {w : World} {base : Nat} {sp : Nat → Bool} {held : Bool} {fuel : Nat} {cs : List Value} {a b : Int} {p : List MemPlace}
    (h : DataW.trod enc Tryd.prog w base sp held fuel 88 cs = some (.agg [.lit (.int .i64 a), .lit (.int .i64 b)], p)) : cs = [.int .i64 a, .int .i64 b] := by
  have hi : Tryd.prog.underlying 3 = some (.int .i64) := by kernel_rfl
  have hc : Tryd.prog.cellsOf 3 = 1 := by kernel_rfl
  have hg : Tryd.prog.cellsOf 88 = 2 := by kernel_rfl
  obtain ⟨y0, y1, n, hx, hl, h0, h1⟩ := trod_struct2 Tryd.underlying88 h
  rw [hg] at hl
  match cs, hl with
  | [c0, c1], _ =>
    simp only [hc] at h0 h1
    obtain ⟨i, e0, r0, _⟩ := DataW.trod_int hi h0
    obtain ⟨j, e1, r1, _⟩ := DataW.trod_int hi h1
    subst r0 r1
    simp at hx e0 e1
    obtain ⟨⟨rfl, rfl⟩, _⟩ := hx
    rw [e0, e1]
set_option maxRecDepth 100000 in
theorem laid_facts {W : World} (h : laidMetH Tryd.prog Rows.topThimbleTelegramsRow.laid W) : Thirds W := by
  rw [MakeChecks.laidMetH_plain _ _ _ (by kernel_rfl)] at h
  obtain ⟨ps, ⟨g0, t0, cs0, f0, p0, q0, hg0, ht0, hv0, hd0, ⟨g1, t1, cs1, f1, p1, q1, hg1, ht1, hv1, hd1, _, _⟩, _⟩, _, _⟩ := h
  have n0 : Tryd.prog.globalNamed "bipole/phasor.w" = some 0 := by kernel_rfl
  have n1 : Tryd.prog.globalNamed "bipole/phasor.w2" = some 1 := by kernel_rfl
  obtain rfl := Option.some.inj (n0.symm.trans hg0)
  obtain rfl := Option.some.inj (n1.symm.trans hg1)
  have T0 : Tryd.prog.globals[0]?.map (·.type) = some 88 := by kernel_rfl
  have T1 : Tryd.prog.globals[1]?.map (·.type) = some 88 := by kernel_rfl
  obtain rfl := Option.some.inj (T0.symm.trans ht0)
  obtain rfl := Option.some.inj (T1.symm.trans ht1)
  have k0 := eisen_of_trod hd0
  have k1 := eisen_of_trod hd1
  have v0 := fun i => World.var?_cell hg0 hv0 i
  have v1 := fun i => World.var?_cell hg1 hv1 i
  obtain ⟨l0⟩ := cs0
  obtain ⟨l1⟩ := cs1
  simp only at k0 k1
  subst k0 k1
  exact ⟨⟨by simpa using v0 0, by simpa using v0 1⟩, by simpa using v1 0, by simpa using v1 1⟩
theorem trod_places {H : Type} {enc : TypeId × Value → H} {W : World} {sp : Nat → Bool} {held : Bool} {T : TypeId} {v : Value} {d : DataW H} {p : List MemPlace} (hd : DataW.Trod enc Tryd.prog W 0 sp held T v d p) : ∀ x ∈ p, x.block < W.heap.size := by
  obtain ⟨fuel, hf⟩ := hd
  exact DataW.trod_lt _ _ _ _ hf
theorem wfi8 {x : Int} (h : (Lit.int .i8 x).wf = true) : -128 ≤ x ∧ x ≤ 127 := by
  have e1 : IntKind.i8.min = -128 := by decide
  have e2 : IntKind.i8.max = 127 := by decide
  simpa [Lit.wf, e1, e2] using h
theorem wfu8 {x : Int} (h : (Lit.int .u8 x).wf = true) : 0 ≤ x ∧ x ≤ 255 := by
  have e1 : IntKind.u8.min = 0 := by decide
  have e2 : IntKind.u8.max = 255 := by decide
  simpa [Lit.wf, e1, e2] using h
theorem wfu16 {x : Int} (h : (Lit.int .u16 x).wf = true) : 0 ≤ x ∧ x ≤ 65535 := by
  have e1 : IntKind.u16.min = 0 := by decide
  have e2 : IntKind.u16.max = 65535 := by decide
  simpa [Lit.wf, e1, e2] using h
set_option maxRecDepth 100000 in
theorem row8_of_trod {H : Type} {enc : TypeId × Value → H} {w : World} {base : Nat} {sp : Nat → Bool} {held : Bool} {fuel : Nat} {cs : List Value} {x : DataW H × List MemPlace}
    (h : DataW.trod enc Tryd.prog w base sp held fuel 31 cs = some x) : ∃ y : E3, cs = [.int .i8 y.1, .int .i8 y.2.1, .int .i8 y.2.2.1, .int .i8 y.2.2.2.1, .int .i8 y.2.2.2.2.1, .int .i8 y.2.2.2.2.2] ∧ E8 y := by
  have hi : Tryd.prog.underlying 30 = some (.int .i8) := by kernel_rfl
  have hc : Tryd.prog.cellsOf 30 = 1 := by kernel_rfl
  have hq : Tryd.prog.cellsOf 31 = 6 := by kernel_rfl
  obtain ⟨xs, m, _, hx, hl, hn, hel⟩ := DataW.trod_array Tryd.underlying31 h
  rw [hq] at hl
  rw [hc] at hel
  match cs, hl with
  | [c0, c1, c2, c3, c4, c5], _ =>
    have k0 := hel 0 (by decide)
    have k1 := hel 1 (by decide)
    have k2 := hel 2 (by decide)
    have k3 := hel 3 (by decide)
    have k4 := hel 4 (by decide)
    have k5 := hel 5 (by decide)
    match xs, hn with
    | [x0, x1, x2, x3, x4, x5], _ =>
      simp at k0 k1 k2 k3 k4 k5
      obtain ⟨y0, e0, _, w0⟩ := DataW.trod_int hi k0
      obtain ⟨y1, e1, _, w1⟩ := DataW.trod_int hi k1
      obtain ⟨y2, e2, _, w2⟩ := DataW.trod_int hi k2
      obtain ⟨y3, e3, _, w3⟩ := DataW.trod_int hi k3
      obtain ⟨y4, e4, _, w4⟩ := DataW.trod_int hi k4
      obtain ⟨y5, e5, _, w5⟩ := DataW.trod_int hi k5
      simp at e0 e1 e2 e3 e4 e5
      exact ⟨(y0, y1, y2, y3, y4, y5), by rw [e0, e1, e2, e3, e4, e5], wfi8 w0, wfi8 w1, wfi8 w2, wfi8 w3, wfi8 w4, wfi8 w5⟩
set_option maxRecDepth 100000 in
theorem open_rows8 {H : Type} {enc : TypeId × Value → H} {W : World} {r : Reach} {b0 : Nat} {v : Value} {d : DataW H} {p : List MemPlace}
    (hval : Value.okWide Tryd.prog W r b0 22 v) (hd : DataW.Trod enc Tryd.prog W 0 (fun _ => true) true 22 v d p) : ∃ l : List E3, Rows8 W v l ∧ ∀ x ∈ l, E8 x := by
  have hq : Tryd.prog.cellsOf 31 = 6 := by kernel_rfl
  obtain ⟨a0, len, cap, rfl⟩ := okWide_slice Tryd.underlying22 hval
  obtain ⟨fuel, hf⟩ := hd
  rcases Go.Deep.open_slice Tryd.underlying22 hf with ⟨hcs, hx⟩ | ⟨a, len', cap', m, n, D, Pl, hcs, _, hl, hm, hmm, hx, hcell⟩
  · simp [Value.cells] at hcs
    obtain ⟨rfl, rfl, rfl⟩ := hcs
    exact ⟨[], ⟨none, 0, rfl, fun h => by simp at h⟩, fun x hx => by simp at hx⟩
  · simp [Value.cells] at hcs
    obtain ⟨rfl, rfl, rfl⟩ := hcs
    simp only [if_true] at hmm
    subst hmm
    have each : ∀ i, i < m → ∃ q : E3, (W.cell? (a.add (i * 6 + 0)) = some (.int .i8 q.1) ∧ W.cell? (a.add (i * 6 + 1)) = some (.int .i8 q.2.1) ∧ W.cell? (a.add (i * 6 + 2)) = some (.int .i8 q.2.2.1) ∧ W.cell? (a.add (i * 6 + 3)) = some (.int .i8 q.2.2.2.1) ∧ W.cell? (a.add (i * 6 + 4)) = some (.int .i8 q.2.2.2.2.1) ∧ W.cell? (a.add (i * 6 + 5)) = some (.int .i8 q.2.2.2.2.2)) ∧ E8 q := fun i hi' => by
      obtain ⟨cs', h1, h2⟩ := hcell i hi'
      rw [hq] at h1
      obtain ⟨_, hlen, hc⟩ := World.cells?_some h1
      obtain ⟨y, rfl, hy⟩ := row8_of_trod h2
      have key : ∀ j u, j < 6 → [Value.int .i8 y.1, .int .i8 y.2.1, .int .i8 y.2.2.1, .int .i8 y.2.2.2.1, .int .i8 y.2.2.2.2.1, .int .i8 y.2.2.2.2.2][j]? = some u → W.cell? (a.add (i * 6 + j)) = some u := fun j u hj hu => by
        have h3 := hc j hj
        rw [hu] at h3
        rw [← h3, Go.Deep.add_add]
      exact ⟨y, ⟨key 0 _ (by omega) rfl, key 1 _ (by omega) rfl, key 2 _ (by omega) rfl, key 3 _ (by omega) rfl, key 4 _ (by omega) rfl, key 5 _ (by omega) rfl⟩, hy⟩
    obtain ⟨q, hq2⟩ := Go.Deep.choose_lt each
    refine ⟨(List.range len).map q, ⟨some a, m, by simp, fun h0 => ?_⟩, fun x hx => ?_⟩
    · simp at h0
      obtain ⟨b, off, spot⟩ := a
      have hspot : spot = none := by simpa [Addr.add] using World.cell?_spot (hq2 0 (by omega)).1.1
      subst hspot
      refine ⟨b, off, rfl, fun j x hj => ?_⟩
      have hjl := (List.getElem?_eq_some_iff.1 hj).1
      simp at hjl
      rw [List.getElem?_map, List.getElem?_range hjl] at hj
      cases hj
      obtain ⟨⟨h0, h1, h2, h3, h4, h5⟩, _⟩ := hq2 j (by omega)
      rw [addr_add] at h0 h1 h2 h3 h4 h5
      exact ⟨h0, by rw [← Nat.add_assoc] at h1; exact h1, by rw [← Nat.add_assoc] at h2; exact h2, by rw [← Nat.add_assoc] at h3; exact h3, by rw [← Nat.add_assoc] at h4; exact h4, by rw [← Nat.add_assoc] at h5; exact h5⟩
    · obtain ⟨j, hj, rfl⟩ := List.mem_map.1 hx
      rw [List.mem_range] at hj
      exact (hq2 j (by omega)).2
end
end Go.Proofs.YtjmdnolmaofbiaaDoor

/- What the row TopShackleTapped needs: the listed variables' cells, the world in which the door lays them, arguments. -/
import Derived.Test.YtpkaoechbmbolaaGreatDoorLawTap
import Derived.Test.YtpkaoechbmbolaaGreatDoorRows
import Derived.WalkKit
import Derived.ProofKit
import Derived.LaidMore
import Derived.OpenShut
import Derived.Stop.Joined
import Derived.ChangeSame
import Derived.ChangeOld
import Derived.Below
import Derived.Lib.LaidTab
import Derived.Deep.Matrix
namespace Go.Proofs.YtpkaoechbmbolaaGreatDoor
section
open Go.ChangeShapes Go.WideShapes Go.ChangeAt Go.RowKit
set_option linter.unusedVariables false

theorem own : ownKnob Tryz.prog.godebug = none := by kernel_rfl
theorem laidOut : laidOutB Tryz.prog = true := by kernel_rfl

/-- the door's own heap meets the condition. -/
theorem door_met (os : Os) (args : Array Value) : laidMetH Tryz.prog Rows.topShackleTappedRow.laid ((World.doorLaid Tryz.prog 400 os).forCall (fun _ _ => 0) ⟨#[], args, []⟩).memory :=
  laidMetH_of_parts3 (fuel := 8) (laidMet_of_run' 8 (by kernel_rfl) (by kernel_rfl)) (by kernel_rfl) (by kernel_rfl)

set_option maxRecDepth 100000 in
theorem eisen_of_trod {H : Type} {enc : TypeId × Value → H} {w : World} {base : Nat} {sp : Nat → Bool} {held : Bool} {fuel : Nat} {cs : List Value} {a b : Int} {p : List MemPlace}
    (h : DataW.trod enc Tryz.prog w base sp held fuel 66 cs = some (.agg [.lit (.int .i64 a), .lit (.int .i64 b)], p)) : cs = [.int .i64 a, .int .i64 b] := by
  have hi : Tryz.prog.underlying 3 = some (.int .i64) := by kernel_rfl
  have hc : Tryz.prog.cellsOf 3 = 1 := by kernel_rfl
  have hg : Tryz.prog.cellsOf 66 = 2 := by kernel_rfl
  obtain ⟨y0, y1, n, hx, hl, h0, h1⟩ := trod_struct2 Tryz.underlying66 h
  rw [hg] at hl
  match cs, hl with
  | [c0, c1], _ =>
    simp only [hc] at h0 h1
    obtain ⟨i, e0, r0, _⟩ := DataW.trod_int hi h0
    obtain ⟨j, e1, r1, _⟩ := DataW.trod_int hi h1
    subst r0 r1
    simp at hx e0 e1
    obtain ⟨⟨rfl, rfl⟩, _⟩ := hx
    rw [e0, e1]
set_option maxRecDepth 100000 in
theorem cyclo_of_trod {H : Type} {enc : TypeId × Value → H} {w : World} {base : Nat} {sp : Nat → Bool} {held : Bool} {fuel : Nat} {cs : List Value} {a b c d : Int} {p : List MemPlace}
    (h : DataW.trod enc Tryz.prog w base sp held fuel 68 cs = some (.agg [.agg [.lit (.int .i64 a), .lit (.int .i64 b)], .agg [.lit (.int .i64 c), .lit (.int .i64 d)]], p)) : cs = [.int .i64 a, .int .i64 b, .int .i64 c, .int .i64 d] := by
  have he : Tryz.prog.cellsOf 66 = 2 := by kernel_rfl
  have hg : Tryz.prog.cellsOf 68 = 4 := by kernel_rfl
  obtain ⟨y0, y1, n, hx, hl, h0, h1⟩ := trod_struct2 Tryz.underlying68 h
  rw [hg] at hl
  match cs, hl with
  | [c0, c1, c2, c3], _ =>
    simp only [he] at h0 h1
    obtain ⟨y0, q0⟩ := y0
    obtain ⟨y1, q1⟩ := y1
    simp only [Prod.mk.injEq, DataW.agg.injEq, List.cons.injEq, and_true] at hx
    obtain ⟨⟨rfl, rfl⟩, _⟩ := hx
    have k0 := eisen_of_trod h0
    have k1 := eisen_of_trod h1
    simp at k0 k1
    obtain ⟨rfl, rfl⟩ := k0
    obtain ⟨rfl, rfl⟩ := k1
    rfl

set_option maxRecDepth 100000 in
theorem laid_facts {W : World} (h : laidMetH Tryz.prog Rows.topShackleTappedRow.laid W) : Powers W := by
  rw [MakeChecks.laidMetH_plain _ _ _ (by kernel_rfl)] at h
  obtain ⟨ps, ⟨g3, t3, cs3, f3, p3, q3, hg3, ht3, hv3, hd3, _, _⟩, _, _⟩ := h
  have n3 : Tryz.prog.globalNamed "bipole/harmonic.powers" = some 0 := by kernel_rfl
  obtain rfl := Option.some.inj (n3.symm.trans hg3)
  have hg : Tryz.prog.cellsOf 68 = 4 := by kernel_rfl
  obtain ⟨T, hT⟩ : ∃ T, Tryz.prog.globals[0]?.map (·.type) = some T ∧ Tryz.prog.underlying T = some (.array 3 68) ∧ Tryz.prog.cellsOf T = 12 := ⟨_, rfl, by kernel_rfl, by kernel_rfl⟩
  obtain ⟨hT1, u3, hq⟩ := hT
  obtain rfl := Option.some.inj (hT1.symm.trans ht3)
  obtain ⟨xs, m, _, hx, hl, hn, hel⟩ := DataW.trod_array u3 hd3
  rw [hq] at hl
  rw [hg] at hel
  have hv := fun i => World.var?_cell hg3 hv3 i
  obtain ⟨l⟩ := cs3
  match l, hl with
  | [c0, c1, c2, c3, c4, c5, c6, c7, c8, c9, c10, c11], _ =>
    match xs, hn with
    | [x0, x1, x2], _ =>
      simp only [Rows.laid_bipole_harmonic_powers, List.map_cons, List.map_nil, Prod.mk.injEq, DataW.agg.injEq, List.cons.injEq, and_true] at hx
      obtain ⟨⟨h0, h1, h2⟩, _⟩ := hx
      obtain ⟨x0, p0⟩ := x0
      obtain ⟨x1, p1⟩ := x1
      obtain ⟨x2, p2⟩ := x2
      simp only at h0 h1 h2
      subst h0 h1 h2
      have k0 := cyclo_of_trod (by simpa using hel 0 (by decide))
      have k1 := cyclo_of_trod (by simpa using hel 1 (by decide))
      have k2 := cyclo_of_trod (by simpa using hel 2 (by decide))
      simp only [List.cons.injEq, and_true] at k0 k1 k2
      obtain ⟨rfl, rfl, rfl, rfl⟩ := k0
      obtain ⟨rfl, rfl, rfl, rfl⟩ := k1
      obtain ⟨rfl, rfl, rfl, rfl⟩ := k2
      intro j hj
      have hvj := hv j
      have hj' : j = 0 ∨ j = 1 ∨ j = 2 ∨ j = 3 ∨ j = 4 ∨ j = 5 ∨ j = 6 ∨ j = 7 ∨ j = 8 ∨ j = 9 ∨ j = 10 ∨ j = 11 := by omega
      rcases hj' with rfl | rfl | rfl | rfl | rfl | rfl | rfl | rfl | rfl | rfl | rfl | rfl <;> simpa [powC] using hvj

section
open Go.ChangeShapes Go.WideShapes Go.ChangeAt Go.RowKit
set_option linter.unusedVariables false
theorem trod_places {H : Type} {enc : TypeId × Value → H} {W : World} {sp : Nat → Bool} {held : Bool} {T : TypeId} {v : Value} {d : DataW H} {p : List MemPlace} (hd : DataW.Trod enc Tryz.prog W 0 sp held T v d p) : ∀ x ∈ p, x.block < W.heap.size := by
  obtain ⟨fuel, hf⟩ := hd
  exact DataW.trod_lt _ _ _ _ hf


end
end

end Go.Proofs.YtpkaoechbmbolaaGreatDoor

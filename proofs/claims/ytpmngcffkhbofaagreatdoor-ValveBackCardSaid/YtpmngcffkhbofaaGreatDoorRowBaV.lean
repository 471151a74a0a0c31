/- What the rows of chapter 7 have in common: the listed variables' cells, the world in which the door lays them, arguments. -/
import Derived.Test.YtpmngcffkhbofaaGreatDoorVbP
import Derived.Test.YtpmngcffkhbofaaGreatDoorRows
import Derived.WalkKit
import Derived.ProofKit
import Derived.LaidMore
import Derived.Lay
import Derived.OpenShut
import Derived.Stop.Joined
import Derived.ChangeSame
import Derived.ChangeOld
import Derived.Below
import Derived.Lib.LaidTab
import Derived.Deep.Matrix
import Derived.HandedShaped
import Derived.Shelf.Vars
import Derived.ChangeMaps5
import Derived.Test.YtpmngcffkhbofaaGreatDoorVnC
import Derived.Deep.SlicePairs
namespace Go.Proofs.YtpmngcffkhbofaaGreatDoor
section
open Go.ChangeShapes Go.WideShapes Go.ChangeAt Go.RowKit
set_option linter.unusedVariables false
theorem own : ownKnob Tryz.prog.godebug = none := by kernel_rfl
theorem laidOut : laidOutB Tryz.prog = true := by kernel_rfl
/-- the door's own heap meets the condition. -/
theorem door_met (os : Os) (args : Array Value) : laidMetH Tryz.prog Rows.valveBackRow.laid ((World.laidAll Tryz.prog os Rows.valveBackRow.laid).forCall (fun _ _ => 0) ⟨#[], args, []⟩).memory := by
 rw [MakeChecks.laidMetH_plain _ _ _ (by kernel_rfl)]
 exact laidMet_laidAll _ (by kernel_rfl) (by kernel_rfl)
set_option maxRecDepth 100000 in
theorem laid_facts {W : World} (h : laidMetH Tryz.prog Rows.valveBackRow.laid W) : Pows W ∧ Heads W := by
 rw [MakeChecks.laidMetH_plain _ _ _ (by kernel_rfl)] at h
 obtain ⟨ps, ⟨g0, t0, cs0, f0, p0, q0, hg0, ht0, hv0, hd0, ⟨g1, t1, cs1, f1, p1, q1, hg1, ht1, hv1, hd1, ⟨g2, t2, cs2, f2, p2, q2, hg2, ht2, hv2, hd2, ⟨ga, ta, csa, fa, pa, qa, hga, hta, hva, hda, ⟨g3, t3, cs3, f3, p3, q3, hg3, ht3, hv3, hd3, ⟨gb, tb, csb, fb, pb, qb, hgb, htb, hvb, hdb, _, _⟩, _⟩, _⟩, _⟩, _⟩, _⟩, _, _⟩ := h
 have n2 : Tryz.prog.globalNamed "internal/strconv.uint64pow10" = some 2 := by kernel_rfl
 have n3 : Tryz.prog.globalNamed "bipole/valve.heads" = some 0 := by kernel_rfl
 obtain rfl := Option.some.inj (n2.symm.trans hg2)
 obtain rfl := Option.some.inj (n3.symm.trans hg3)
 clear hg0 ht0 hv0 hd0 hg1 ht1 hv1 hd1 hga hta hva hda hgb htb hvb hdb
 refine ⟨?_, ?_⟩
 ·have y2 : (Tryz.prog.globals[2]?).map (·.type) = some t2 := ht2
  have z2 : (Tryz.prog.globals[2]?).map (·.type) = some 298 := by kernel_rfl
  obtain rfl := Option.some.inj (z2.symm.trans y2)
  have e := Lib.cells_of_tab (zs := Lib.pow10Tab) (k := .u64) (n := 20) (e := 211) (by kernel_rfl) (by kernel_rfl) (by kernel_rfl) (by kernel_rfl) (show DataW.trod _ _ _ _ _ _ _ 298 _ = some (Lib.tabData .u64 Lib.pow10Tab, p2) from hd2)
  unfold Pows Lib.TabIs
  rw [hv2, ← e]
 ·have hg : Tryz.prog.cellsOf 9 = 1 := by kernel_rfl
  have us : Tryz.prog.underlying 9 = some .string := by kernel_rfl
  obtain ⟨T, hT⟩ : ∃ T, Tryz.prog.globals[0]?.map (·.type) = some T ∧ Tryz.prog.underlying T = some (.array 2 9) ∧ Tryz.prog.cellsOf T = 2 := ⟨_, rfl, by kernel_rfl, by kernel_rfl⟩
  obtain ⟨hT1, u3, hq⟩ := hT
  obtain rfl := Option.some.inj (hT1.symm.trans ht3)
  obtain ⟨xs, m, _, hx, hl, hn, hel⟩ := DataW.trod_array u3 hd3
  rw [hq] at hl
  rw [hg] at hel
  have hv := fun i => World.var?_cell hg3 hv3 i
  obtain ⟨l⟩ := cs3
  match l, hl with
  | [c0, c1], _ =>
    match xs, hn with
    | [x0, x1], _ =>
      simp only [Rows.laid_bipole_valve_heads, List.map_cons, List.map_nil, Prod.mk.injEq, DataW.agg.injEq, List.cons.injEq, and_true] at hx
      obtain ⟨⟨h0, h1⟩, _⟩ := hx
      obtain ⟨x0, p0⟩ := x0
      obtain ⟨x1, p1⟩ := x1
      simp only at h0 h1
      subst h0 h1
      obtain ⟨s0, k0, r0, _⟩ := DataW.trod_string us (by simpa using hel 0 (by decide))
      obtain ⟨s1, k1, r1, _⟩ := DataW.trod_string us (by simpa using hel 1 (by decide))
      simp only [List.cons.injEq, and_true] at k0 k1
      simp only [Prod.mk.injEq, DataW.lit.injEq, Lit.string.injEq] at r0 r1
      have e0 : s0 = logS := by
       obtain ⟨⟨a⟩⟩ := s0
       have := r0.1
       simp only at this
       rw [← this]; rfl
      have e1 : s1 = pulseS := by
       obtain ⟨⟨a⟩⟩ := s1
       have := r1.1
       simp only at this
       rw [← this]; rfl
      rw [k0, e0, k1, e1] at hv
      exact ⟨by simpa using hv 0, by simpa using hv 1⟩
theorem trod_places {H : Type} {enc : TypeId × Value → H} {W : World} {sp : Nat → Bool} {held : Bool} {T : TypeId} {v : Value} {d : DataW H} {p : List MemPlace} (hd : DataW.Trod enc Tryz.prog W 0 sp held T v d p) : ∀ x ∈ p, x.block < W.heap.size := by
 obtain ⟨fuel, hf⟩ := hd
 exact DataW.trod_lt _ _ _ _ hf
theorem maxl_of {W : World} (h : W.ShapedOpen Tryz.prog) : MaxL W :=
 cell_of_shapedOpen_int (zero := #[.int .i64 0]) (t := 3) h (of_decide_eq_true (by kernel_rfl)) (by kernel_rfl) rfl (by kernel_rfl) (by kernel_rfl) Tryz.underlying3
/-- the wrap that hands the world's shape on. -/
theorem handed_and_shaped {H : Type} {enc : TypeId × Value → H} {a : Assume} {C : Checked} {os : Os} {f : FuncId} {fn : Func} {s : ChangeSpec} {conds : List PathCond} {apart fresh handsOn again : Bool} {X : World → Array Value → Prop}
 (hX : ∀ (w w' : World) (args : Array Value), w.heap = w'.heap → X w args → X w' args)
 (own : ownKnob C.prog.godebug = none) (started : os.Started) (noInit : C.prog.inits.idxOf? f = none) (hfn : C.prog.funcs[f]? = some fn)
 (witness : ∃ (w : World) (tape : Tape) (i : Input), w.os = os ∧ (w.forCall tape i).Shaped C.prog ∧ i.vars = [] ∧ Input.okWide C.prog (w.forCall tape i) .any w.heap.size f i ∧
   ((s.pre enc C.prog fn conds apart (w.forCall tape i).memory i.args ∧ X (w.forCall tape i).memory i.args) ∧ sizedMet enc C.prog fn (OpenSpec.ofChange s) apart (w.forCall tape i).memory i.args) ∧ a.holds C.prog (lone (Frame.enter C.prog f i.args .normal) [] (w.forCall tape i)))
 (contract : ∀ (W : World) (base : Nat) (args : Array Value) (ds gs : List (DataW H)) (before : List MemPlace),
   (∀ (j : Nat) t v, fn.params[j]? = some t → args[j]? = some v → Value.okWide C.prog W .any base t v) →
   DataW.Whole enc C.prog fn.params.toList s.vars apart W args.toList ds gs before →
   X W args → W.ShapedOpen C.prog →
   Calls C.prog f args W fun e W' => ∃ v, e = .returned v ∧ s.post enc C.prog fn apart fresh handsOn again W args v W') :
 ReturnsInHanded a C os f .any (fun w args => (s.pre enc C.prog fn conds apart w args ∧ X w args) ∧ sizedMet enc C.prog fn (OpenSpec.ofChange s) apart w args) (s.post enc C.prog fn apart fresh handsOn again) := by
 refine returnsInHanded_of_calls own started noInit witness ?_
 intro w tape i _ hsh _ hok hpre hholds
 obtain ⟨_, _, _, fn', hfn', _, _, _, _, hval⟩ := hok
 have e : fn' = fn := Option.some.inj (hfn'.symm.trans hfn)
 subst e
 obtain ⟨⟨⟨ds, gs, before, hw, hc⟩, hx⟩, hz⟩ := hpre
 have hw' := DataW.Whole.of_heap (w' := w.forCall tape i) (by rfl) hw
 refine (contract (w.forCall tape i) w.heap.size i.args ds gs before hval hw' (hX _ _ _ (by rfl) hx) hsh).mono fun e W' ⟨v, he, hp⟩ => ?_
 subst he
 exact ChangeSpec.post_blind hp
end
end Go.Proofs.YtpmngcffkhbofaaGreatDoor

/- What the rows of chapter 3 have in common: the listed variables' cells, and the world in which the door lays them. -/
import Derived.Test.YtfdehcphmmhjaaaGreatDoorAwakeE
import Derived.Test.YtfdehcphmmhjaaaGreatDoorRows
import Derived.WalkKit
import Derived.ProofKit
import Derived.LaidMore
import Derived.Lay
import Derived.OpenShut
import Derived.Stop.Joined
import Derived.ChangeSame
import Derived.ChangeOld
import Derived.Below
import Derived.Lib.LaidTab
import Derived.Test.YtfdehcphmmhjaaaGreatDoorPairs
import Derived.Deep.Matrix
import Derived.HandedShaped
import Derived.Shelf.Vars
import Derived.ChangeMaps5
import Derived.Stop.LaidErr
import Derived.LaidLaws
import Derived.Test.YtfdehcphmmhjaaaGreatDoorLopB
namespace Go.Proofs.YtfdehcphmmhjaaaGreatDoor
section
open Go.ChangeShapes Go.WideShapes Go.ChangeAt Go.RowKit
set_option linter.unusedVariables false

theorem own : ownKnob Tryz.prog.godebug = none := by kernel_rfl
theorem laidOut : laidOutB Tryz.prog = true := by kernel_rfl

/-- the door's own heap meets the condition. -/
theorem door_met (os : Os) (args : Array Value) : laidMetH Tryz.prog Rows.loopTextsRow.laid ((World.laidAll Tryz.prog os Rows.loopTextsRow.laid).forCall (fun _ _ => 0) ⟨#[], args, []⟩).memory := by
  rw [MakeChecks.laidMetH_plain _ _ _ (by kernel_rfl)]
  exact laidMet_laidAll _ (by kernel_rfl) (by kernel_rfl)

set_option maxRecDepth 100000 in
theorem gauss_of_trod {H : Type} {enc : TypeId × Value → H} {w : World} {base : Nat} {sp : Nat → Bool} {held : Bool} {fuel : Nat} {cs : List Value} {a b : Int} {p : List MemPlace}
    (h : DataW.trod enc Tryz.prog w base sp held fuel 51 cs = some (.agg [.lit (.int .i64 a), .lit (.int .i64 b)], p)) : cs = [.int .i64 a, .int .i64 b] := by
  have hi : Tryz.prog.underlying 3 = some (.int .i64) := by kernel_rfl
  have hc : Tryz.prog.cellsOf 3 = 1 := by kernel_rfl
  have hg : Tryz.prog.cellsOf 51 = 2 := by kernel_rfl
  obtain ⟨y0, y1, n, hx, hl, h0, h1⟩ := trod_struct2 Tryz.underlying51 h
  rw [hg] at hl
  match cs, hl with
  | [c0, c1], _ =>
    simp only [hc] at h0 h1
    obtain ⟨i, e0, r0, _⟩ := DataW.trod_int hi h0
    obtain ⟨j, e1, r1, _⟩ := DataW.trod_int hi h1
    subst r0 r1
    simp at hx e0 e1
    obtain ⟨⟨rfl, rfl⟩, _⟩ := hx
    rw [e0, e1]

set_option maxRecDepth 100000 in
theorem laid_facts {W : World} (h : laidMetH Tryz.prog Rows.loopTextsRow.laid W) : Quarters W ∧ Pows W := by
  rw [MakeChecks.laidMetH_plain _ _ _ (by kernel_rfl)] at h
  obtain ⟨ps, ⟨g0, t0, cs0, f0, p0, q0, hg0, ht0, hv0, hd0, ⟨g1, t1, cs1, f1, p1, q1, hg1, ht1, hv1, hd1, ⟨g2, t2, cs2, f2, p2, q2, hg2, ht2, hv2, hd2, ⟨ga, ta, csa, fa, pa, qa, hga, hta, hva, hda, ⟨gb, tb, csb, fb, pb, qb, hgb, htb, hvb, hdb, ⟨gc, tc, csc, fc, pc, qc, hgc, htc, hvc, hdc, ⟨g3, t3, cs3, f3, p3, q3, hg3, ht3, hv3, hd3, ⟨gd, td, csd, fd, pd, qd, hgd, htd, hvd, hdd, _, _⟩, _⟩, _⟩, _⟩, _⟩, _⟩, _⟩, _⟩, _, _⟩ := h
  have n2 : Tryz.prog.globalNamed "internal/strconv.uint64pow10" = some 1 := by kernel_rfl
  have n3 : Tryz.prog.globalNamed "bipole/loop.quarters" = some 0 := by kernel_rfl
  have y3 : (Tryz.prog.globals[0]?).map (·.type) = some 121 := by kernel_rfl
  obtain rfl := Option.some.inj (n2.symm.trans hg2)
  obtain rfl := Option.some.inj (n3.symm.trans hg3)
  obtain rfl := Option.some.inj (y3.symm.trans ht3)
  clear hg0 ht0 hv0 hd0 hg1 ht1 hv1 hd1 hga hta hva hda hgb htb hvb hdb hgc htc hvc hdc hgd htd hvd hdd
  refine ⟨?_, ?_⟩
  · have u3 : Tryz.prog.underlying 121 = some (.array 4 51) := by kernel_rfl
    have hg : Tryz.prog.cellsOf 51 = 2 := by kernel_rfl
    have hq : Tryz.prog.cellsOf 121 = 8 := by kernel_rfl
    obtain ⟨xs, m, _, hx, hl, hn, hel⟩ := DataW.trod_array u3 hd3
    rw [hq] at hl
    rw [hg] at hel
    have hv := fun i => World.var?_cell hg3 hv3 i
    obtain ⟨l⟩ := cs3
    match l, hl with
    | [c0, c1, c2, c3, c4, c5, c6, c7], _ =>
      match xs, hn with
      | [x0, x1, x2, x3], _ =>
        simp only [Rows.laid_bipole_loop_quarters, List.map_cons, List.map_nil, Prod.mk.injEq, DataW.agg.injEq, List.cons.injEq, and_true] at hx
        obtain ⟨⟨h0, h1, h2, h3⟩, _⟩ := hx
        obtain ⟨x0, p0⟩ := x0
        obtain ⟨x1, p1⟩ := x1
        obtain ⟨x2, p2⟩ := x2
        obtain ⟨x3, p3⟩ := x3
        simp only at h0 h1 h2 h3
        subst h0 h1 h2 h3
        have k0 := gauss_of_trod (by simpa using hel 0 (by decide))
        have k1 := gauss_of_trod (by simpa using hel 1 (by decide))
        have k2 := gauss_of_trod (by simpa using hel 2 (by decide))
        have k3 := gauss_of_trod (by simpa using hel 3 (by decide))
        simp only [List.cons.injEq, and_true] at k0 k1 k2 k3
        obtain ⟨rfl, rfl⟩ := k0
        obtain ⟨rfl, rfl⟩ := k1
        obtain ⟨rfl, rfl⟩ := k2
        obtain ⟨rfl, rfl⟩ := k3
        exact ⟨by simpa using hv 0, by simpa using hv 1, by simpa using hv 2, by simpa using hv 3, by simpa using hv 4, by simpa using hv 5, by simpa using hv 6, by simpa using hv 7⟩
  · have y2 : (Tryz.prog.globals[1]?).map (·.type) = some t2 := ht2
    have z2 : (Tryz.prog.globals[1]?).map (·.type) = some 207 := by kernel_rfl
    obtain rfl := Option.some.inj (z2.symm.trans y2)
    have e := Lib.cells_of_tab (zs := Lib.pow10Tab) (k := .u64) (n := 20) (e := 187) (by kernel_rfl) (by kernel_rfl) (by kernel_rfl) (by kernel_rfl) (show DataW.trod _ _ _ _ _ _ _ 207 _ = some (Lib.tabData .u64 Lib.pow10Tab, p2) from hd2)
    unfold Pows Lib.TabIs
    rw [hv2, ← e]
end

section
open Go.ChangeShapes Go.WideShapes Go.ChangeAt Go.RowKit
set_option linter.unusedVariables false

theorem trod_places {H : Type} {enc : TypeId × Value → H} {W : World} {sp : Nat → Bool} {held : Bool} {T : TypeId} {v : Value} {d : DataW H} {p : List MemPlace} (hd : DataW.Trod enc Tryz.prog W 0 sp held T v d p) : ∀ x ∈ p, x.block < W.heap.size := by
  obtain ⟨fuel, hf⟩ := hd
  exact DataW.trod_lt _ _ _ _ hf


set_option maxRecDepth 100000 in
theorem open_intsArg {H : Type} {enc : TypeId × Value → H} {W : World} {r : Reach} {b0 : Nat} {T : TypeId} {v : Value} {d : DataW H} {p : List MemPlace} (hT : Tryz.prog.underlying T = some (.slice 3))
    (hval : Value.okWide Tryz.prog W r b0 T v) (hd : DataW.Trod enc Tryz.prog W 0 (fun _ => true) true T v d p) : ∃ l : List Int, Ints W v l ∧ ∀ x ∈ l, (Lit.int .i64 x).wf = true := by
  have hi : Tryz.prog.underlying 3 = some (.int .i64) := by kernel_rfl
  have hc : Tryz.prog.cellsOf 3 = 1 := by kernel_rfl
  obtain ⟨a0, len, cap, rfl⟩ := okWide_slice hT hval
  obtain ⟨fuel, hf⟩ := hd
  rcases open_ints hT hi hc hf with ⟨hcs, hx⟩ | ⟨a, len', cap', zs, hcs, _, hl, hm, hz, hx, hcell, hwz⟩
  · simp [Value.cells] at hcs
    obtain ⟨rfl, rfl, rfl⟩ := hcs
    exact ⟨[], Ints.nil W, fun x hx => by simp at hx⟩
  · simp [Value.cells] at hcs
    obtain ⟨rfl, rfl, rfl⟩ := hcs
    simp only [if_true] at hz
    refine ⟨zs.take len, ⟨some a, cap, by rw [List.length_take, hz, Nat.min_eq_left hl], by rw [List.length_take, hz, Nat.min_eq_left hl]; exact hl, fun h0 => ?_⟩, fun x hx => hwz x (List.mem_of_mem_take hx)⟩
    rw [List.length_take, hz, Nat.min_eq_left hl] at h0
    obtain ⟨b, off, spot⟩ := a
    have hspot : spot = none := by simpa [Addr.add] using World.cell?_spot (hcell 0 (by omega))
    subst hspot
    refine ⟨b, off, rfl, fun j hj => ?_⟩
    rw [List.length_take, hz, Nat.min_eq_left hl] at hj
    have := hcell j (by omega)
    rw [addr_add] at this
    rw [this, List.getElem?_take, if_pos hj]
    rfl
end

section
open Go.ChangeShapes Go.WideShapes Go.ChangeAt Go.RowKit
theorem maxl_of {W : World} (h : W.ShapedOpen Tryz.prog) : MaxL W :=
  cell_of_shapedOpen_int (zero := #[.int .i64 0]) (t := 3) h (of_decide_eq_true (by kernel_rfl)) (by kernel_rfl) rfl (by kernel_rfl) (by kernel_rfl) Tryz.underlying3
theorem starErr : "*" ++ "errors.errorString" = "*errors.errorString" := by decide
theorem rowErr (u : TypeId) (h : Tryz.prog.typeName? 3 u = some "*errors.errorString") : u = 226 :=
  typeName_ptr_named (nm := "errors.errorString") (by rw [starErr]; kernel_rfl) (by kernel_rfl) (by decide) u (by rw [starErr]; exact h)
theorem errs_of {W : World} (h : laidMetH Tryz.prog Rows.loopTextsRow.laid W) : Errs W := by
  rw [MakeChecks.laidMetH_plain _ _ _ (by kernel_rfl)] at h
  have h4 := h.tail.tail.tail.tail
  have h5 := h4.tail
  have g4 : Tryz.prog.globalNamed "strconv.ErrRange" = some 4 := by kernel_rfl
  have g3 : Tryz.prog.globalNamed "strconv.ErrSyntax" = some 3 := by kernel_rfl
  obtain ⟨a0, s0, hv0, -, -, -⟩ := laid_sentinel (ti := 147) (tp := 226) (te := 228) (ts := 9) h4 g4 (by kernel_rfl) Tryz.underlying147 rowErr Tryz.underlying226 Tryz.underlying228 rfl rfl Tryz.underlying9 (by kernel_rfl) (by kernel_rfl)
  obtain ⟨a1, s1, hv1, -, -, -⟩ := laid_sentinel (ti := 147) (tp := 226) (te := 228) (ts := 9) h5 g3 (by kernel_rfl) Tryz.underlying147 rowErr Tryz.underlying226 Tryz.underlying228 rfl rfl Tryz.underlying9 (by kernel_rfl) (by kernel_rfl)
  exact ⟨⟨_, _, by have h0 := World.var?_cell g3 hv1 0; simpa using h0⟩, _, _, by have h0 := World.var?_cell g4 hv0 0; simpa using h0⟩
theorem base_of {W : World} (h : laidMetH Tryz.prog Rows.loopTextsRow.laid W) (hsh : W.ShapedOpen Tryz.prog) : Base W := ⟨(laid_facts h).2, errs_of h, maxl_of hsh⟩
theorem laid_same : Rows.loopBackRow.laid = Rows.loopTextsRow.laid := rfl
end
/-- the wrap that hands the world's shape on. -/
theorem handed_and_shaped {H : Type} {enc : TypeId × Value → H} {a : Assume} {C : Checked} {os : Os} {f : FuncId} {fn : Func} {s : ChangeSpec} {conds : List PathCond} {apart fresh handsOn again : Bool} {X : World → Array Value → Prop}
    (hX : ∀ (w w' : World) (args : Array Value), w.heap = w'.heap → X w args → X w' args)
    (own : ownKnob C.prog.godebug = none) (started : os.Started) (noInit : C.prog.inits.idxOf? f = none) (hfn : C.prog.funcs[f]? = some fn)
    (witness : ∃ (w : World) (tape : Tape) (i : Input), w.os = os ∧ (w.forCall tape i).Shaped C.prog ∧ i.vars = [] ∧ Input.okWide C.prog (w.forCall tape i) .any w.heap.size f i ∧
      ((s.pre enc C.prog fn conds apart (w.forCall tape i).memory i.args ∧ X (w.forCall tape i).memory i.args) ∧ sizedMet enc C.prog fn (OpenSpec.ofChange s) apart (w.forCall tape i).memory i.args) ∧ a.holds C.prog (lone (Frame.enter C.prog f i.args .normal) [] (w.forCall tape i)))
    (contract : ∀ (W : World) (base : Nat) (args : Array Value) (ds gs : List (DataW H)) (before : List MemPlace),
      (∀ (j : Nat) t v, fn.params[j]? = some t → args[j]? = some v → Value.okWide C.prog W .any base t v) →
      DataW.Whole enc C.prog fn.params.toList s.vars apart W args.toList ds gs before →
      X W args → W.ShapedOpen C.prog →
      Calls C.prog f args W fun e W' => ∃ v, e = .returned v ∧ s.post enc C.prog fn apart fresh handsOn again W args v W') :
    ReturnsInHanded a C os f .any (fun w args => (s.pre enc C.prog fn conds apart w args ∧ X w args) ∧ sizedMet enc C.prog fn (OpenSpec.ofChange s) apart w args) (s.post enc C.prog fn apart fresh handsOn again) := by
  refine returnsInHanded_of_calls own started noInit witness ?_
  intro w tape i _ hsh _ hok hpre hholds
  obtain ⟨_, _, _, fn', hfn', _, _, _, _, hval⟩ := hok
  have e : fn' = fn := Option.some.inj (hfn'.symm.trans hfn)
  subst e
  obtain ⟨⟨⟨ds, gs, before, hw, hc⟩, hx⟩, hz⟩ := hpre
  have hw' := DataW.Whole.of_heap (w' := w.forCall tape i) (by rfl) hw
  refine (contract (w.forCall tape i) w.heap.size i.args ds gs before hval hw' (hX _ _ _ (by rfl) hx) hsh).mono fun e W' ⟨v, he, hp⟩ => ?_
  subst he
  exact ChangeSpec.post_blind hp
end Go.Proofs.YtfdehcphmmhjaaaGreatDoor

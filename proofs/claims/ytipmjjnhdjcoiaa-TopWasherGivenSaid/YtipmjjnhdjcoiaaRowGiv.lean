/- Proves that the law TopWasherGiven returns true at every input and leaves its argument as it was. Conditions: those of the given row. -/
import Derived.Test.YtipmjjnhdjcoiaaLawGiv
import Derived.Test.YtipmjjnhdjcoiaaArr
import Derived.Test.YtipmjjnhdjcoiaaRows
import Derived.WalkKit
import Derived.ProofKit
import Derived.OpenShut
import Derived.ChangeOld
import Derived.Below
import Derived.Lib.SmallJoins
import Derived.Deep.Matrix
import Derived.Deep.SlicePairs
namespace Go.Proofs.Ytipmjjnhdjcoiaa
open Go.ChangeShapes Go.WideShapes Go.ChangeAt Go.RowKit
set_option linter.unusedVariables false
set_option linter.unusedSimpArgs false

theorem own : ownKnob Try.prog.godebug = none := by kernel_rfl
theorem laidOut : laidOutB Try.prog = true := by kernel_rfl

set_option maxRecDepth 100000 in
theorem orders_of_trod {H : Type} {enc : TypeId × Value → H} {W : World} {fuel : Nat} {v : Value} {x : DataW H × List MemPlace}
    (hf : DataW.trod enc Try.prog W 0 (fun _ => true) true fuel 24 [v] = some x) : ∃ l : List P2, Prs W v l := by
  have hi : Try.prog.underlying 3 = some (.int .i64) := by kernel_rfl
  have hc : Try.prog.cellsOf 3 = 1 := by kernel_rfl
  rcases Go.Deep.open_slice_pairs Try.underlying24 Try.underlying33 (by kernel_rfl) rfl rfl hc hc hf with ⟨hcs, hx⟩ | ⟨a, len', cap', m, n, V0, V1, D0, D1, P0, P1, hcs, _, hl, hm, hmm, hx, hcell⟩
  · simp at hcs
    subst hcs
    exact ⟨[], Rw.nil 2 pV W none 0⟩
  · simp at hcs
    subst hcs
    simp only [if_true] at hmm
    subst hmm
    have each : ∀ i, i < m → ∃ q : P2, W.cell? (a.add (i * 2)) = some (.int .i64 q.1) ∧ W.cell? (a.add (i * 2 + 1)) = some (.int .i64 q.2) := fun i hi' => by
      obtain ⟨e0, e1, t0, t1⟩ := hcell i hi'
      obtain ⟨x, x0, _, _⟩ := DataW.trod_int hi t0
      obtain ⟨y, y0, _, _⟩ := DataW.trod_int hi t1
      simp at x0 y0
      exact ⟨(x, y), by rw [e0, x0], by rw [e1, y0]⟩
    obtain ⟨q, hq⟩ := Go.Deep.choose_lt each
    refine ⟨(List.range len').map q, some a, m, by simp, by simpa using hl, fun h0 => ?_⟩
    simp at h0
    obtain ⟨b, off, spot⟩ := a
    have hspot : spot = none := by simpa [Addr.add] using World.cell?_spot (hq 0 (by omega)).1
    subst hspot
    refine ⟨b, off, rfl, fun j x hj => ?_⟩
    have hjl := (List.getElem?_eq_some_iff.1 hj).1
    simp at hjl
    rw [List.getElem?_map, List.getElem?_range hjl] at hj
    cases hj
    obtain ⟨h1, h2⟩ := hq j (by omega)
    rw [addr_add] at h1 h2
    intro i u hu
    match i, hu with
    | 0, hu => simp [pV] at hu; subst hu; rw [Nat.add_zero]; exact h1
    | 1, hu => simp [pV] at hu; subst hu; rw [← Nat.add_assoc] at h2; exact h2
    | i + 2, hu => simp [pV] at hu

set_option maxRecDepth 100000 in
theorem open_intsArg {H : Type} {enc : TypeId × Value → H} {W : World} {r : Reach} {b0 : Nat} {T : TypeId} {v : Value} {d : DataW H} {p : List MemPlace} (hT : Try.prog.underlying T = some (.slice 3))
    (hval : Value.okWide Try.prog W r b0 T v) (hd : DataW.Trod enc Try.prog W 0 (fun _ => true) true T v d p) : ∃ l : List Int, Ints W v l ∧ ∀ x ∈ l, (Lit.int .i64 x).wf = true := by
  have hi : Try.prog.underlying 3 = some (.int .i64) := by kernel_rfl
  have hc : Try.prog.cellsOf 3 = 1 := by kernel_rfl
  obtain ⟨a0, len, cap, rfl⟩ := okWide_slice hT hval
  obtain ⟨fuel, hf⟩ := hd
  rcases open_ints hT hi hc hf with ⟨hcs, hx⟩ | ⟨a, len', cap', zs, hcs, _, hl, hm, hz, hx, hcell, hwz⟩
  · simp [Value.cells] at hcs
    obtain ⟨rfl, rfl, rfl⟩ := hcs
    exact ⟨[], Ints.nil W, fun x hx => by simp at hx⟩
  · simp [Value.cells] at hcs
    obtain ⟨rfl, rfl, rfl⟩ := hcs
    simp only [if_true] at hz
    refine ⟨zs.take len, ⟨some a, cap, by rw [List.length_take, hz, Nat.min_eq_left hl], by rw [List.length_take, hz, Nat.min_eq_left hl]; exact hl, fun h0 => ?_⟩, fun x hx => hwz x (List.mem_of_mem_take hx)⟩
    rw [List.length_take, hz, Nat.min_eq_left hl] at h0
    obtain ⟨b, off, spot⟩ := a
    have hspot : spot = none := by simpa [Addr.add] using World.cell?_spot (hcell 0 (by omega))
    subst hspot
    refine ⟨b, off, rfl, fun j hj => ?_⟩
    rw [List.length_take, hz, Nat.min_eq_left hl] at hj
    have := hcell j (by omega)
    rw [addr_add] at this
    rw [this, List.getElem?_take, if_pos hj]
    rfl

set_option maxRecDepth 100000 in
theorem open_losses {H : Type} {enc : TypeId × Value → H} {W : World} {r : Reach} {b0 : Nat} {v : Value} {d : DataW H} {p : List MemPlace}
    (hval : Value.okWide Try.prog W r b0 23 v) (hd : DataW.Trod enc Try.prog W 0 (fun _ => true) true 23 v d p) :
    ∃ a b c : Int, v = .agg #[.int .i64 a, .int .i64 b, .int .i64 c] := by
  have ht := Try.underlying23
  have q0 : Try.prog.cellsOf 3 = 1 := by kernel_rfl
  obtain ⟨cs, rfl, hsz⟩ := okWide_struct ht hval
  have hsz3 : cs.size = 3 := hsz.trans (by kernel_rfl)
  obtain ⟨l⟩ := cs
  match l, hsz3 with
  | [c0, c1, c2], _ =>
    obtain ⟨fuel, hf⟩ := hd
    obtain ⟨xs, n, _, _, hl, hlen, hfs⟩ := DataW.trod_struct ht hf
    have hx3 : xs.length = 3 := hlen
    match xs, hx3 with
    | [y0, y1, y2], _ =>
      have h0 := hfs 0 _ rfl
      have h1 := hfs 1 _ rfl
      have h2 := hfs 2 _ rfl
      simp only [q0, Value.cells, List.drop_zero, List.drop_succ_cons, List.take_succ_cons, List.take_zero, List.getElem?_cons_zero, List.getElem?_cons_succ] at h0 h1 h2
      obtain ⟨x, ex, _, wx⟩ := DataW.trod_int Try.underlying3 h0
      obtain ⟨y, ey, _, wy⟩ := DataW.trod_int Try.underlying3 h1
      obtain ⟨z, ez, _, wz⟩ := DataW.trod_int Try.underlying3 h2
      simp [q0] at ex ey ez
      subst ex ey ez
      exact ⟨x, y, z, rfl⟩
set_option maxRecDepth 100000 in
theorem open_two {H : Type} {enc : TypeId × Value → H} {W : World} {r : Reach} {b0 : Nat} {v : Value} {d : DataW H} {p : List MemPlace}
    (hval : Value.okWide Try.prog W r b0 25 v) (hd : DataW.Trod enc Try.prog W 0 (fun _ => true) true 25 v d p) :
    ∃ (u1 u2 : Value) (l1 l2 : List P2), v = .agg #[u1, u2] ∧ Prs W u1 l1 ∧ Prs W u2 l2 := by
  have hT := Try.underlying25
  have hcT : Try.prog.cellsOf 25 = 2 := by kernel_rfl
  have hcE : Try.prog.cellsOf 24 = 1 := by kernel_rfl
  simp only [Value.okWide, hT] at hval
  obtain ⟨cs, rfl, hc, _⟩ := hval
  rw [hcT] at hc
  obtain ⟨l⟩ := cs
  match l, hc with
  | [c0, c1], _ =>
    obtain ⟨fuel, hf⟩ := hd
    cases fuel with
    | zero => simp [DataW.trod] at hf
    | succ m =>
      rw [DataW.trod_step] at hf
      unfold DataW.trodStep at hf
      simp only [hT] at hf
      rw [if_pos (by rw [hcT]; rfl), hcE] at hf
      obtain ⟨ys, hy, e1⟩ := Option.map_eq_some_iff.1 hf
      obtain ⟨hyl, hyg⟩ := mapM_some _ _ _ hy
      rw [List.length_range] at hyl
      have h0 := hyg 0 0 (ys[0]'(by omega)) (by simp) (List.getElem?_eq_getElem _)
      have h1 := hyg 1 1 (ys[1]'(by omega)) (by simp) (List.getElem?_eq_getElem _)
      obtain ⟨l1, hl1⟩ := orders_of_trod h0
      obtain ⟨l2, hl2⟩ := orders_of_trod h1
      exact ⟨c0, c1, l1, l2, rfl, hl1, hl2⟩

theorem trod_places {H : Type} {enc : TypeId × Value → H} {W : World} {sp : Nat → Bool} {held : Bool} {T : TypeId} {v : Value} {d : DataW H} {p : List MemPlace} (hd : DataW.Trod enc Try.prog W 0 sp held T v d p) : ∀ x ∈ p, x.block < W.heap.size := by
  obtain ⟨fuel, hf⟩ := hd
  exact DataW.trod_lt _ _ _ _ hf

set_option maxRecDepth 100000 in
theorem giv_lifted (os : Os) (started : os.Started) (H : Type) (enc : TypeId × Value → H) :
    ReturnsInHanded {} Try.checked os 3 .any (Rows.topWasherGivenSpec.pre6 enc Try.prog Try.f3 Rows.topWasherGivenRow.domain false) (Rows.topWasherGivenSpec.post enc Try.prog Try.f3 false true false false) := by
  refine returnsInHanded_of_change (C := Try.checked) own started (by kernel_rfl) Try.func3
    (ChangeSpec.witness6 (enc := enc) (C := Try.checked) false ⟨#[], #[.agg #[.int .i64 0, .int .i64 0, .int .i64 0], .agg #[.slice none 0 0, .slice none 0 0], .slice none 0 0], []⟩ 8 (by kernel_rfl) (by kernel_rfl) (by kernel_rfl) (by kernel_rfl)) ?_
  intro W base args ds gs before hval0 hW hcnd _
  have hval : ∀ (j : Nat) t v, Try.f3.params[j]? = some t → args[j]? = some v → Value.okWide Try.prog W .any base t v := hval0
  have hW' := hW
  obtain ⟨p, q, hA0, hV, rfl, hfz, hnd⟩ := hW
  have hA : DataW.TrodAll enc Try.prog W 0 (fun _ => true) true Try.f3.params.toList args.toList ds p := hA0
  rw [Try.params3] at hA hval
  obtain ⟨v0, vs0, d0, ds0, p0, q0, hargs, rfl, rfl, h0, r0⟩ := trodAll_cons hA
  obtain ⟨v1, vs1, d1, ds1, p1, q1, rfl, rfl, rfl, h1, r1⟩ := trodAll_cons r0
  obtain ⟨v2, vs2, d2, ds2, p2, q2, rfl, rfl, rfl, h2, r2⟩ := trodAll_cons r1
  obtain ⟨rfl, rfl, rfl⟩ := trodAll_nil r2
  obtain rfl : args = #[v0, v1, v2] := by cases args; simp_all
  obtain ⟨rfl, rfl⟩ := trodVars_none hV
  obtain ⟨a, b, c, rfl⟩ := open_losses (hval 0 23 v0 rfl rfl) h0
  obtain ⟨u1, u2, l1, l2, rfl, hl1, hl2⟩ := open_two (hval 1 25 v1 rfl rfl) h1
  obtain ⟨l3, hl3, -⟩ := open_intsArg Try.underlying26 (hval 2 26 v2 rfl rfl) h2
  clear hA0 hval0
  refine (giv_law a b c u1 u2 v2 l1 l2 l3 W hl1 hl2 hl3).mono fun e W' ⟨he, bel⟩ => ?_
  subst he
  exact ⟨_, rfl, _, _, _, [], _, [], hW', trodAll_mk1 (shut_bool Try.underlying4 _), (trodAll_cons_mk (Below.trod laidOut (by kernel_rfl) (of_decide_eq_true (by kernel_rfl)) h0 bel (trod_places h0)) (trodAll_cons_mk (Below.trod laidOut (by kernel_rfl) (of_decide_eq_true (by kernel_rfl)) h1 bel (trod_places h1)) (trodAll_cons_mk (Below.trod laidOut (by kernel_rfl) (of_decide_eq_true (by kernel_rfl)) h2 bel (trod_places h2)) trodAll_mk0))), rfl, bel.frame _, fun h => by cases h⟩

/-- the statement. -/
theorem giv_holds : Rows.TopWasherGivenSaid :=
  OpenClaim.holds_of_wide 3 Try.f3 rfl rfl rfl rfl rfl rfl rfl ⟨rfl, rfl, rfl, rfl, rfl⟩ rfl rfl rfl rfl rfl (by kernel_rfl) Try.func3 (by kernel_rfl)
    (of_decide_eq_true (by kernel_rfl)) (by unfold Func.isWrapper; first | (rw [if_pos (by decide +kernel)]; kernel_rfl) | (rw [if_neg (by decide +kernel)]; exact ⟨rfl, rfl⟩))
    (fun os started H enc _ => giv_lifted os started H enc)

#print axioms giv_holds

end Go.Proofs.Ytipmjjnhdjcoiaa

/- Proves that the law TopWasherDroop returns true at every input and leaves its argument as it was. Conditions: those of the given row. -/
import Derived.Test.YthbeigcalnlkiaaLawDrp
import Derived.Test.YthbeigcalnlkiaaArr
import Derived.Test.YthbeigcalnlkiaaRows
import Derived.WalkKit
import Derived.ProofKit
import Derived.OpenShut
import Derived.ChangeOld
import Derived.Below
import Derived.Lib.SmallJoins
namespace Go.Proofs.Ythbeigcalnlkiaa
open Go.ChangeShapes Go.WideShapes Go.ChangeAt Go.RowKit
set_option linter.unusedVariables false
set_option linter.unusedSimpArgs false

theorem own : ownKnob Try.prog.godebug = none := by kernel_rfl
theorem laidOut : laidOutB Try.prog = true := by kernel_rfl

theorem wf_u8 {a : Int} (h : (Lit.int .u8 a).wf = true) : 0 ≤ a ∧ a ≤ 255 := by
  have e1 : IntKind.u8.min = 0 := by decide
  have e2 : IntKind.u8.max = 255 := by decide
  simpa [Lit.wf, e1, e2] using h
theorem wf_i8 {a : Int} (h : (Lit.int .i8 a).wf = true) : -128 ≤ a ∧ a ≤ 127 := by
  have e1 : IntKind.i8.min = -128 := by decide
  have e2 : IntKind.i8.max = 127 := by decide
  simpa [Lit.wf, e1, e2] using h

set_option maxRecDepth 100000 in
theorem bytes_of_trod {H : Type} {enc : TypeId × Value → H} {W : World} {T : TypeId} {fuel : Nat} {v : Value} {x : DataW H × List MemPlace} (hT : Try.prog.underlying T = some (.slice 5))
    (hf : DataW.trod enc Try.prog W 0 (fun _ => true) true fuel T [v] = some x) : ∃ l : List Int, FallIs W v l ∧ ∀ x ∈ l, 0 ≤ x ∧ x ≤ 255 := by
  have hi : Try.prog.underlying 5 = some (.int .u8) := by kernel_rfl
  have hc : Try.prog.cellsOf 5 = 1 := by kernel_rfl
  rcases open_ints hT hi hc hf with ⟨hcs, hx⟩ | ⟨a, len, cap, zs, hcs, _, hl, hm, hz, hx, hcell, hwz⟩
  · simp at hcs
    subst hcs
    exact ⟨[], ⟨none, 0, rfl, Nat.le_refl _, fun h => by simp at h⟩, fun x hx => by simp at hx⟩
  · simp at hcs
    subst hcs
    simp only [if_true] at hz
    refine ⟨zs.take len, ⟨some a, cap, by rw [List.length_take, hz, Nat.min_eq_left hl], by rw [List.length_take, hz, Nat.min_eq_left hl]; exact hl, fun h0 => ?_⟩, fun x hx => wf_u8 (hwz x (List.mem_of_mem_take hx))⟩
    rw [List.length_take, hz, Nat.min_eq_left hl] at h0
    obtain ⟨b, off, spot⟩ := a
    have hspot : spot = none := by simpa [Addr.add] using World.cell?_spot (hcell 0 (by omega))
    subst hspot
    refine ⟨b, off, rfl, fun j x hj => ?_⟩
    have hjl := (List.getElem?_eq_some_iff.1 hj).1
    rw [List.length_take, hz, Nat.min_eq_left hl] at hjl
    have := hcell j (by omega)
    rw [addr_add] at this
    rw [List.getElem?_take, if_pos hjl] at hj
    rw [this, List.getD_eq_getElem?_getD, hj]
    rfl

theorem trod_arr3 {P : Program} {H : Type} {enc : TypeId × Value → H} {W : World} {T E : TypeId} {k : IntKind} {fuel : Nat} {c0 c1 c2 : Value} {x : DataW H × List MemPlace}
    (hT : P.underlying T = some (.array 3 E)) (hE : P.underlying E = some (.int k)) (hcT : P.cellsOf T = 3) (hcE : P.cellsOf E = 1)
    (hf : DataW.trod enc P W 0 (fun _ => true) true fuel T [c0, c1, c2] = some x) :
    ∃ a b c : Int, c0 = .int k a ∧ c1 = .int k b ∧ c2 = .int k c ∧ (Lit.int k a).wf = true ∧ (Lit.int k b).wf = true ∧ (Lit.int k c).wf = true := by
  cases fuel with
  | zero => simp [DataW.trod] at hf
  | succ m =>
    rw [DataW.trod_step] at hf
    unfold DataW.trodStep at hf
    simp only [hT] at hf
    rw [if_pos (by rw [hcT]; rfl), hcE] at hf
    obtain ⟨ys, hy, e1⟩ := Option.map_eq_some_iff.1 hf
    obtain ⟨hyl, hyg⟩ := mapM_some _ _ _ hy
    rw [List.length_range] at hyl
    have key : ∀ i, i < 3 → ∃ a, [c0, c1, c2][i]? = some (.int k a) ∧ (Lit.int k a).wf = true := fun i hi => by
      have h1 := hyg i i (ys[i]'(by omega)) (by simp [hi]) (List.getElem?_eq_getElem _)
      obtain ⟨a, ea, e2, wa⟩ := DataW.trod_int hE h1
      refine ⟨a, ?_, wa⟩
      have h2 : (List.take 1 (List.drop (i * 1) [c0, c1, c2]))[0]? = some (.int k a) := by rw [ea]; rfl
      rw [List.getElem?_take, if_pos (by omega), List.getElem?_drop, Nat.mul_one, Nat.add_zero] at h2
      exact h2
    obtain ⟨a, ha, wa⟩ := key 0 (by omega)
    obtain ⟨b, hb, wb⟩ := key 1 (by omega)
    obtain ⟨c, hc, wc⟩ := key 2 (by omega)
    simp at ha hb hc
    exact ⟨a, b, c, ha, hb, hc, wa, wb, wc⟩
theorem array7 {α : Type} {cs : Array α} (h : cs.size = 7) : ∃ c0 c1 c2 c3 c4 c5 c6, cs = #[c0, c1, c2, c3, c4, c5, c6] := by
  obtain ⟨l⟩ := cs
  match l, h with
  | [c0, c1, c2, c3, c4, c5, c6], _ => exact ⟨_, _, _, _, _, _, _, rfl⟩

set_option maxRecDepth 100000 in
theorem open_droop {H : Type} {enc : TypeId × Value → H} {W : World} {r : Reach} {b0 : Nat} {v : Value} {d : DataW H} {p : List MemPlace}
    (hval : Value.okWide Try.prog W r b0 26 v) (hd : DataW.Trod enc Try.prog W 0 (fun _ => true) true 26 v d p) :
    ∃ (vf : Value) (l : List Int) (p0 p1 p2 x y z : Int), v = .agg #[vf, .int .i8 p0, .int .i8 p1, .int .i8 p2, .int .u8 x, .int .u8 y, .int .u8 z] ∧ FallIs W vf l ∧ (∀ a ∈ l, 0 ≤ a ∧ a ≤ 255) ∧ ((-128 ≤ p0 ∧ p0 ≤ 127) ∧ (-128 ≤ p1 ∧ p1 ≤ 127) ∧ (-128 ≤ p2 ∧ p2 ≤ 127)) ∧
      (0 ≤ x ∧ x ≤ 255) ∧ (0 ≤ y ∧ y ≤ 255) ∧ (0 ≤ z ∧ z ≤ 255) := by
  have ht := Try.underlying26
  have q0 : Try.prog.cellsOf 22 = 1 := by kernel_rfl
  have q1 : Try.prog.cellsOf 24 = 3 := by kernel_rfl
  have q2 : Try.prog.cellsOf 5 = 1 := by kernel_rfl
  have q3 : Try.prog.cellsOf 23 = 1 := by kernel_rfl
  obtain ⟨cs, rfl, hsz⟩ := okWide_struct ht hval
  obtain ⟨c0, c1, c2, c3, c4, c5, c6, rfl⟩ := array7 (hsz.trans (by kernel_rfl))
  obtain ⟨fuel, hf⟩ := hd
  obtain ⟨xs, n, _, _, hl, hlen, hfs⟩ := DataW.trod_struct ht hf
  have hx5 : xs.length = 5 := hlen
  match xs, hx5 with
  | [y0, y1, y2, y3, y4], _ =>
    have h0 := hfs 0 _ rfl
    have h1 := hfs 1 _ rfl
    have h2 := hfs 2 _ rfl
    have h3 := hfs 3 _ rfl
    have h4 := hfs 4 _ rfl
    simp only [q0, q1, q2, Value.cells, List.drop_zero, List.drop_succ_cons, List.take_succ_cons, List.take_zero, List.getElem?_cons_zero, List.getElem?_cons_succ] at h0 h1 h2 h3 h4
    obtain ⟨l, hl1, hl2⟩ := bytes_of_trod Try.underlying22 h0
    obtain ⟨a, b, c, rfl, rfl, rfl, wa, wb, wc⟩ := trod_arr3 Try.underlying24 Try.underlying23 q1 q3 h1
    obtain ⟨x, ex, _, wx⟩ := DataW.trod_int Try.underlying5 h2
    obtain ⟨y, ey, _, wy⟩ := DataW.trod_int Try.underlying5 h3
    obtain ⟨z, ez, _, wz⟩ := DataW.trod_int Try.underlying5 h4
    simp [q2] at ex ey ez
    subst ex ey ez
    exact ⟨c0, l, a, b, c, x, y, z, rfl, hl1, hl2, ⟨wf_i8 wa, wf_i8 wb, wf_i8 wc⟩, wf_u8 wx, wf_u8 wy, wf_u8 wz⟩

theorem trod_places {H : Type} {enc : TypeId × Value → H} {W : World} {sp : Nat → Bool} {held : Bool} {T : TypeId} {v : Value} {d : DataW H} {p : List MemPlace} (hd : DataW.Trod enc Try.prog W 0 sp held T v d p) : ∀ x ∈ p, x.block < W.heap.size := by
  obtain ⟨fuel, hf⟩ := hd
  exact DataW.trod_lt _ _ _ _ hf

set_option maxRecDepth 100000 in
theorem drp_lifted (os : Os) (started : os.Started) (H : Type) (enc : TypeId × Value → H) :
    ReturnsInHanded {} Try.checked os 3 .any (Rows.topWasherDroopSpec.pre6 enc Try.prog Try.f3 Rows.topWasherDroopRow.domain false) (Rows.topWasherDroopSpec.post enc Try.prog Try.f3 false true false false) := by
  refine returnsInHanded_of_change (C := Try.checked) own started (by kernel_rfl) Try.func3
    (ChangeSpec.witness6 (enc := enc) (C := Try.checked) false ⟨#[], #[.agg #[.slice none 0 0, .int .i8 0, .int .i8 0, .int .i8 0, .int .u8 0, .int .u8 0, .int .u8 0]], []⟩ 8 (by kernel_rfl) (by kernel_rfl) (by kernel_rfl) (by kernel_rfl)) ?_
  intro W base args ds gs before hval0 hW hcnd _
  have hval : ∀ (j : Nat) t v, Try.f3.params[j]? = some t → args[j]? = some v → Value.okWide Try.prog W .any base t v := hval0
  have hW' := hW
  obtain ⟨p, q, hA0, hV, rfl, hfz, hnd⟩ := hW
  have hA : DataW.TrodAll enc Try.prog W 0 (fun _ => true) true Try.f3.params.toList args.toList ds p := hA0
  rw [Try.params3] at hA hval
  obtain ⟨v0, vs0, d0, ds0, p0, q0, hargs, rfl, rfl, h0, r0⟩ := trodAll_cons hA
  obtain ⟨rfl, rfl, rfl⟩ := trodAll_nil r0
  obtain rfl : args = #[v0] := by cases args; simp_all
  obtain ⟨rfl, rfl⟩ := trodVars_none hV
  obtain ⟨vf, l, a0, a1, a2, x, y, z, rfl, hfl, hl8, hp, hx, hy, hz⟩ := open_droop (hval 0 26 v0 rfl rfl) h0
  clear hA0 hval0
  refine (drp_law vf l a0 a1 a2 x y z W hfl hl8 hp hx hy hz).mono fun e W' ⟨he, bel⟩ => ?_
  subst he
  exact ⟨_, rfl, _, _, _, [], _, [], hW', trodAll_mk1 (shut_bool Try.underlying4 _), (trodAll_cons_mk (Below.trod laidOut (by kernel_rfl) (of_decide_eq_true (by kernel_rfl)) h0 bel (trod_places h0)) trodAll_mk0), rfl, bel.frame _, fun h => by cases h⟩

/-- the statement. -/
theorem drp_holds : Rows.TopWasherDroopSaid :=
  OpenClaim.holds_of_wide 3 Try.f3 rfl rfl rfl rfl rfl rfl rfl ⟨rfl, rfl, rfl, rfl, rfl⟩ rfl rfl rfl rfl rfl (by kernel_rfl) Try.func3 (by kernel_rfl)
    (of_decide_eq_true (by kernel_rfl)) (by unfold Func.isWrapper; first | (rw [if_pos (by decide +kernel)]; kernel_rfl) | (rw [if_neg (by decide +kernel)]; exact ⟨rfl, rfl⟩))
    (fun os started H enc _ => drp_lifted os started H enc)

#print axioms drp_holds

end Go.Proofs.Ythbeigcalnlkiaa

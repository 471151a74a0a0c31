/- Proves the tied card of the law HarmonicSeparates: it returns true at every input and leaves its arguments as they were. Conditions: those of the given row and its card. -/
import Derived.Test.YtlohcnecehlljaaGreatDoorLawSep
import Derived.Test.YtlohcnecehlljaaGreatDoorRowBaH
import Derived.Test.YtlohcnecehlljaaGreatDoorCards
import Derived.Test.YtlohcnecehlljaaGreatDoorTie
import Derived.Deep.SlicePairs
import Derived.ProofKit
import Derived.OpenShut
import Derived.ChangeOld
import Derived.SevenTiedAt
namespace Go.Proofs.YtlohcnecehlljaaGreatDoor
open Go.ChangeShapes Go.WideShapes Go.ChangeAt Go.RowKit
set_option linter.unusedVariables false

theorem mapM_some {α β : Type} (g : α → Option β) (l : List α) (ys : List β) (h : l.mapM g = some ys) : ys.length = l.length ∧ ∀ (i : Nat) (x : α) (y : β), l[i]? = some x → ys[i]? = some y → g x = some y := by
  induction l generalizing ys with
  | nil => simp at h; subst h; exact ⟨rfl, fun i x y hx => by simp at hx⟩
  | cons a l ih =>
    rw [List.mapM_cons] at h
    simp only [bind, Option.bind_eq_some_iff, pure, Option.some.injEq] at h
    obtain ⟨b, hb, zs, hz, rfl⟩ := h
    obtain ⟨h1, h2⟩ := ih zs hz
    refine ⟨by simp [h1], fun i x y hx hy => ?_⟩
    cases i with
    | zero => simp at hx hy; subst hx hy; exact hb
    | succ i => exact h2 i x y (by simpa using hx) (by simpa using hy)

theorem open_arr {P : Program} {H : Type} {enc : TypeId × Value → H} {W : World} {b0 : Nat} {T E : TypeId} {k : IntKind} {n : Nat} {v : Value} {d : DataW H} {p : List MemPlace}
    (hT : P.underlying T = some (.array n E)) (hE : P.underlying E = some (.int k)) (hcT : P.cellsOf T = n) (hcE : P.cellsOf E = 1)
    (hval : Value.okWide P W .any b0 T v) (hd : DataW.Trod enc P W 0 (fun _ => true) true T v d p) :
    ∃ l : List Int, l.length = n ∧ v = .agg (l.map (Value.int k)).toArray ∧ p = [] ∧ ∀ x ∈ l, (Lit.int k x).wf = true := by
  simp only [Value.okWide, hT] at hval
  obtain ⟨cs, rfl, hc, _⟩ := hval
  rw [hcT] at hc
  obtain ⟨fuel, hf⟩ := hd
  cases fuel with
  | zero => simp [DataW.trod] at hf
  | succ m =>
    rw [DataW.trod_step] at hf
    unfold DataW.trodStep at hf
    simp only [hT, Value.cells] at hf
    rw [if_pos (by rw [hcT]; simpa using hc), hcE] at hf
    obtain ⟨ys, hy, e1⟩ := Option.map_eq_some_iff.1 hf
    obtain ⟨hyl, hyg⟩ := mapM_some _ _ _ hy
    rw [List.length_range] at hyl
    have key : ∀ i, i < n → ∃ a, cs.toList[i]? = some (.int k a) ∧ (∀ y, ys[i]? = some y → y.2 = []) ∧ (Lit.int k a).wf = true := fun i hi => by
      have h1 := hyg i i (ys[i]'(by omega)) (by simp [hi]) (List.getElem?_eq_getElem _)
      obtain ⟨a, ea, e2, wa⟩ := DataW.trod_int hE h1
      refine ⟨a, ?_, fun y hy => ?_, wa⟩
      · have h2 : (List.take 1 (List.drop (i * 1) cs.toList))[0]? = some (.int k a) := by rw [ea]; rfl
        rw [List.getElem?_take, if_pos (by omega), List.getElem?_drop, Nat.mul_one, Nat.add_zero] at h2
        exact h2
      · rw [List.getElem?_eq_getElem (by omega)] at hy
        cases hy
        rw [e2]
    have hall : ∀ x ∈ cs.toList, ∃ a, x = .int k a ∧ (Lit.int k a).wf = true := fun x hx => by
      obtain ⟨i, hi⟩ := List.mem_iff_getElem?.1 hx
      have hin : i < n := by have := (List.getElem?_eq_some_iff.1 hi).1; simp at this; omega
      obtain ⟨a, ha, _, wa⟩ := key i hin
      rw [hi] at ha; cases ha
      exact ⟨a, rfl, wa⟩
    let f : Value → Int := fun v => match v with | .int _ a => a | _ => 0
    refine ⟨cs.toList.map f, by simp [hc], ?_, ?_, ?_⟩
    · congr 1
      apply Array.toList_inj.1
      rw [List.map_map]
      simp only
      conv => lhs; rw [← List.map_id cs.toList]
      apply List.map_congr_left
      intro x hx
      obtain ⟨a, rfl, _⟩ := hall x hx
      rfl
    · simp only [Prod.mk.injEq] at e1
      rw [← e1.2, List.flatMap_eq_nil_iff]
      intro y hy
      obtain ⟨i, hi⟩ := List.mem_iff_getElem?.1 hy
      have hin : i < n := by have := (List.getElem?_eq_some_iff.1 hi).1; omega
      obtain ⟨a, _, h2, _⟩ := key i hin
      exact h2 y hi
    · intro x hx
      obtain ⟨v, hv, rfl⟩ := List.mem_map.1 hx
      obtain ⟨a, rfl, wa⟩ := hall v hv
      exact wa

theorem open_arr2 {P : Program} {H : Type} {enc : TypeId × Value → H} {W : World} {b0 : Nat} {T E : TypeId} {k : IntKind} {v : Value} {d : DataW H} {p : List MemPlace}
    (hT : P.underlying T = some (.array 2 E)) (hE : P.underlying E = some (.int k)) (hcT : P.cellsOf T = 2) (hcE : P.cellsOf E = 1)
    (hval : Value.okWide P W .any b0 T v) (hd : DataW.Trod enc P W 0 (fun _ => true) true T v d p) :
    ∃ a b : Int, v = .agg #[.int k a, .int k b] ∧ p = [] ∧ (Lit.int k a).wf = true ∧ (Lit.int k b).wf = true := by
  obtain ⟨l, hl, hv, hp, hw⟩ := open_arr hT hE hcT hcE hval hd
  match l, hl with
  | [a, b], _ => exact ⟨a, b, hv, hp, hw a (by simp), hw b (by simp)⟩
theorem open_arr3 {P : Program} {H : Type} {enc : TypeId × Value → H} {W : World} {b0 : Nat} {T E : TypeId} {k : IntKind} {v : Value} {d : DataW H} {p : List MemPlace}
    (hT : P.underlying T = some (.array 3 E)) (hE : P.underlying E = some (.int k)) (hcT : P.cellsOf T = 3) (hcE : P.cellsOf E = 1)
    (hval : Value.okWide P W .any b0 T v) (hd : DataW.Trod enc P W 0 (fun _ => true) true T v d p) :
    ∃ a b c : Int, v = .agg #[.int k a, .int k b, .int k c] ∧ p = [] ∧ (Lit.int k a).wf = true ∧ (Lit.int k b).wf = true ∧ (Lit.int k c).wf = true := by
  obtain ⟨l, hl, hv, hp, hw⟩ := open_arr hT hE hcT hcE hval hd
  match l, hl with
  | [a, b, c], _ => exact ⟨a, b, c, hv, hp, hw a (by simp), hw b (by simp), hw c (by simp)⟩
theorem open_arr4 {P : Program} {H : Type} {enc : TypeId × Value → H} {W : World} {b0 : Nat} {T E : TypeId} {k : IntKind} {v : Value} {d : DataW H} {p : List MemPlace}
    (hT : P.underlying T = some (.array 4 E)) (hE : P.underlying E = some (.int k)) (hcT : P.cellsOf T = 4) (hcE : P.cellsOf E = 1)
    (hval : Value.okWide P W .any b0 T v) (hd : DataW.Trod enc P W 0 (fun _ => true) true T v d p) :
    ∃ a b c e : Int, v = .agg #[.int k a, .int k b, .int k c, .int k e] ∧ p = [] ∧ (Lit.int k a).wf = true ∧ (Lit.int k b).wf = true ∧ (Lit.int k c).wf = true ∧ (Lit.int k e).wf = true := by
  obtain ⟨l, hl, hv, hp, hw⟩ := open_arr hT hE hcT hcE hval hd
  match l, hl with
  | [a, b, c, e], _ => exact ⟨a, b, c, e, hv, hp, hw a (by simp), hw b (by simp), hw c (by simp), hw e (by simp)⟩

theorem wfi8 {x : Int} (h : (Lit.int .i8 x).wf = true) : -128 ≤ x ∧ x ≤ 127 := by
  have e1 : IntKind.i8.min = -128 := by decide
  have e2 : IntKind.i8.max = 127 := by decide
  simpa [Lit.wf, e1, e2] using h

theorem array1 {α : Type} {cs : Array α} (h : cs.size = 1) : ∃ c0, cs = #[c0] := by
  obtain ⟨l⟩ := cs
  match l, h with
  | [c0], _ => exact ⟨c0, rfl⟩
set_option maxRecDepth 100000 in
theorem pairs_of_trod {H : Type} {enc : TypeId × Value → H} {W : World} {fuel : Nat} {v : Value} {x : DataW H × List MemPlace}
    (hf : DataW.trod enc Tryz.prog W 0 (fun _ => true) true fuel 45 [v] = some x) : ∃ l : List (Int × Int), Pairs W v l := by
  have hi : Tryz.prog.underlying 3 = some (.int .i64) := by kernel_rfl
  have hc : Tryz.prog.cellsOf 3 = 1 := by kernel_rfl
  rcases Go.Deep.open_slice_pairs Tryz.underlying45 Tryz.underlying141 (by kernel_rfl) rfl rfl hc hc hf with ⟨hcs, hx⟩ | ⟨a, len', cap', m, n, V0, V1, D0, D1, P0, P1, hcs, _, hl, hm, hmm, hx, hcell⟩
  · simp at hcs
    subst hcs
    exact ⟨[], none, 0, rfl, Nat.le_refl _, fun h => by simp at h⟩
  · simp at hcs
    subst hcs
    simp only [if_true] at hmm
    subst hmm
    have each : ∀ i, i < m → ∃ q : Int × Int, W.cell? (a.add (i * 2)) = some (.int .i64 q.1) ∧ W.cell? (a.add (i * 2 + 1)) = some (.int .i64 q.2) := fun i hi' => by
      obtain ⟨e0, e1, t0, t1⟩ := hcell i hi'
      obtain ⟨x, x0, _, _⟩ := DataW.trod_int hi t0
      obtain ⟨y, y0, _, _⟩ := DataW.trod_int hi t1
      simp at x0 y0
      exact ⟨(x, y), by rw [e0, x0], by rw [e1, y0]⟩
    obtain ⟨q, hq⟩ := Go.Deep.choose_lt each
    refine ⟨(List.range len').map q, some a, m, by simp, by simpa using hl, fun h0 => ?_⟩
    simp at h0
    obtain ⟨b, off, spot⟩ := a
    have hspot : spot = none := by simpa [Addr.add] using World.cell?_spot (hq 0 (by omega)).1
    subst hspot
    refine ⟨b, off, rfl, fun j x hj => ?_⟩
    have hjl := (List.getElem?_eq_some_iff.1 hj).1
    simp at hjl
    rw [List.getElem?_map, List.getElem?_range hjl] at hj
    cases hj
    obtain ⟨h1, h2⟩ := hq j (by omega)
    rw [addr_add] at h1 h2
    exact ⟨h1, by rw [← Nat.add_assoc] at h2; exact h2⟩
set_option maxRecDepth 100000 in
theorem open_filterArg {H : Type} {enc : TypeId × Value → H} {W : World} {r : Reach} {b0 : Nat} {v : Value} {d : DataW H} {p : List MemPlace}
    (hval : Value.okWide Tryz.prog W r b0 47 v) (hd : DataW.Trod enc Tryz.prog W 0 (fun _ => true) true 47 v d p) : ∃ (u : Value) (l : List (Int × Int)), v = .agg #[u] ∧ Pairs W u l := by
  have hc : Tryz.prog.cellsOf 47 = 1 := by kernel_rfl
  have hc2 : Tryz.prog.cellsOf 45 = 1 := by kernel_rfl
  obtain ⟨cs, rfl, hsz⟩ := okWide_struct Tryz.underlying47 hval
  obtain ⟨c0, rfl⟩ := array1 (hsz.trans hc)
  obtain ⟨fuel, hf⟩ := hd
  obtain ⟨xs, n, _, _, hl, hlen, hf⟩ := DataW.trod_struct Tryz.underlying47 hf
  match xs, hlen with
  | [y0], _ =>
    have h0 := hf 0 _ rfl
    simp [Value.cells, hc2] at h0
    obtain ⟨l, hP⟩ := pairs_of_trod h0
    exact ⟨c0, l, rfl, hP⟩
set_option maxRecDepth 100000 in
theorem open_pairsArg {H : Type} {enc : TypeId × Value → H} {W : World} {r : Reach} {b0 : Nat} {v : Value} {d : DataW H} {p : List MemPlace}
    (hval : Value.okWide Tryz.prog W r b0 48 v) (hd : DataW.Trod enc Tryz.prog W 0 (fun _ => true) true 48 v d p) : ∃ l : List (Int × Int), Pairs W v l := by
  have hi : Tryz.prog.underlying 3 = some (.int .i64) := by kernel_rfl
  have hc : Tryz.prog.cellsOf 3 = 1 := by kernel_rfl
  obtain ⟨a0, len, cap, rfl⟩ := okWide_slice Tryz.underlying48 hval
  obtain ⟨fuel, hf⟩ := hd
  rcases Go.Deep.open_slice_pairs Tryz.underlying48 Tryz.underlying98 (by kernel_rfl) rfl rfl hc hc hf with ⟨hcs, hx⟩ | ⟨a, len', cap', m, n, V0, V1, D0, D1, P0, P1, hcs, _, hl, hm, hmm, hx, hcell⟩
  · simp [Value.cells] at hcs
    obtain ⟨rfl, rfl, rfl⟩ := hcs
    exact ⟨[], none, 0, rfl, Nat.le_refl _, fun h => by simp at h⟩
  · simp [Value.cells] at hcs
    obtain ⟨rfl, rfl, rfl⟩ := hcs
    simp only [if_true] at hmm
    subst hmm
    have each : ∀ i, i < m → ∃ q : Int × Int, W.cell? (a.add (i * 2)) = some (.int .i64 q.1) ∧ W.cell? (a.add (i * 2 + 1)) = some (.int .i64 q.2) := fun i hi' => by
      obtain ⟨e0, e1, t0, t1⟩ := hcell i hi'
      obtain ⟨x, x0, _, _⟩ := DataW.trod_int hi t0
      obtain ⟨y, y0, _, _⟩ := DataW.trod_int hi t1
      simp at x0 y0
      exact ⟨(x, y), by rw [e0, x0], by rw [e1, y0]⟩
    obtain ⟨q, hq⟩ := Go.Deep.choose_lt each
    refine ⟨(List.range len).map q, some a, m, by simp, by simpa using hl, fun h0 => ?_⟩
    simp at h0
    obtain ⟨b, off, spot⟩ := a
    have hspot : spot = none := by simpa [Addr.add] using World.cell?_spot (hq 0 (by omega)).1
    subst hspot
    refine ⟨b, off, rfl, fun j x hj => ?_⟩
    have hjl := (List.getElem?_eq_some_iff.1 hj).1
    simp at hjl
    rw [List.getElem?_map, List.getElem?_range hjl] at hj
    cases hj
    obtain ⟨h1, h2⟩ := hq j (by omega)
    rw [addr_add] at h1 h2
    exact ⟨h1, by rw [← Nat.add_assoc] at h2; exact h2⟩

set_option maxRecDepth 100000 in
theorem sep_lifted (os : Os) (started : os.Started) (H : Type) (enc : TypeId × Value → H) :
    ReturnsInHanded {} Tryz.checked os 6 .any (fun w args => (Rows.harmonicSeparatesSpec.pre enc Tryz.prog Tryz.f6 [] false w args ∧ laidMetH Tryz.prog Rows.harmonicSeparatesRow.laid w) ∧ sizedMet enc Tryz.prog Tryz.f6 (OpenSpec.ofChange Rows.harmonicSeparatesSpec) false w args)
      (Rows.harmonicSeparatesSpec.post enc Tryz.prog Tryz.f6 false true false false) := by
  refine returnsInHanded_of_change_and (C := Tryz.checked) (X := fun w _ => laidMetH Tryz.prog Rows.harmonicSeparatesRow.laid w) (fun _ _ _ hh h => h.of_heap hh) own started (by kernel_rfl) Tryz.func6
    (ChangeSpec.witness_shaped (enc := enc) (C := Tryz.checked) (os := os) (X := fun w _ => laidMetH Tryz.prog Rows.harmonicSeparatesRow.laid w) false (World.doorLaid Tryz.prog 400 os) #[.agg #[.slice none 0 0], .slice none 0 0, .agg #[.int .i8 0, .int .i8 0, .int .i8 0, .int .i8 0]] 8 rfl (World.shaped_of_RefB (by kernel_rfl) (by kernel_rfl)) (by kernel_rfl) (by kernel_rfl) (by kernel_rfl) (door_met os _)) ?_
  intro W base args ds gs before hval0 hW _ _ hL _
  have hval : ∀ (j : Nat) t v, Tryz.f6.params[j]? = some t → args[j]? = some v → Value.okWide Tryz.prog W .any base t v := hval0
  have hW' := hW
  obtain ⟨p, q, hA0, hV, rfl, hfz, hnd⟩ := hW
  have hA : DataW.TrodAll enc Tryz.prog W 0 (fun _ => true) true Tryz.f6.params.toList args.toList ds p := hA0
  rw [Tryz.params6] at hA hval
  obtain ⟨v0, vs0, d0, ds0, p0, q0, hargs, rfl, rfl, h0, r0⟩ := trodAll_cons hA
  obtain ⟨v1, vs1, d1, ds1, p1, q1, rfl, rfl, rfl, h1, r1⟩ := trodAll_cons r0
  obtain ⟨v2, vs2, d2, ds2, p2, q2, rfl, rfl, rfl, h2, r2⟩ := trodAll_cons r1
  obtain ⟨rfl, rfl, rfl⟩ := trodAll_nil r2
  obtain rfl : args = #[v0, v1, v2] := by cases args; simp_all
  obtain ⟨rfl, rfl⟩ := trodVars_none hV
  obtain ⟨v0, l0, rfl, i0⟩ := open_filterArg (hval 0 47 v0 rfl rfl) h0
  obtain ⟨l1, i1⟩ := open_pairsArg (hval 1 48 v1 rfl rfl) h1
  obtain ⟨a2, b2, c2, d2, rfl, rfl, wa2, wb2, wc2, wd2⟩ := open_arr4 Tryz.underlying95 Tryz.underlying94 (by kernel_rfl) (by kernel_rfl) (hval 2 95 v2 rfl rfl) h2
  clear hA0 hval0
  obtain ⟨hQ, hP⟩ := laid_facts hL
  refine (sep_law v0 v1 l0 l1 a2 b2 c2 d2 W hQ hP i0 i1 (wfi8 wa2) (wfi8 wb2) (wfi8 wc2) (wfi8 wd2)).mono fun e W' ⟨he, bel⟩ => ?_
  subst he
  exact ⟨_, rfl, _, _, _, [], _, [], hW', trodAll_mk1 (shut_bool Tryz.underlying4 _), (trodAll_cons_mk (Below.trod laidOut (by kernel_rfl) (of_decide_eq_true (by kernel_rfl)) h0 bel (trod_places h0)) (trodAll_cons_mk (Below.trod laidOut (by kernel_rfl) (of_decide_eq_true (by kernel_rfl)) h1 bel (trod_places h1)) (trodAll_cons_mk (Below.trod laidOut (by kernel_rfl) (of_decide_eq_true (by kernel_rfl)) h2 bel (trod_places h2)) trodAll_mk0))), rfl, bel.frame _, fun h => by cases h⟩

set_option maxHeartbeats 8000000 in
theorem sep_holds : Rows.HarmonicSeparatesSaid :=
  OpenClaim.holds_of_wide 6 Tryz.f6 rfl rfl rfl rfl rfl rfl rfl ⟨rfl, rfl, rfl, rfl, rfl⟩ rfl rfl rfl rfl rfl (by as_aux_lemma => kernel_rfl) Tryz.func6 (by as_aux_lemma => kernel_rfl)
    (of_decide_eq_true (by as_aux_lemma => kernel_rfl)) (by unfold Func.isWrapper; first | (rw [if_pos (by decide +kernel)]; kernel_rfl) | (rw [if_neg (by decide +kernel)]; exact ⟨rfl, rfl⟩))
    (fun os started H enc _ => sep_lifted os started H enc)

/-- the statement. -/
theorem sep_card : Rows.HarmonicSeparatesCardSaid :=
  Claim7.holds_tied_plain_at .later [] [.data, .data, .data, .data] true (true, "0ce70413bc057e53f98fa178068c0211126843f1bfcddfdcfab653b3ce8311b2") false
    sep_holds (fun _ h => by cases h) (by kernel_rfl) (fun _ h => by cases h) harmonicSeparates_row_tie rfl ⟨rfl, rfl⟩ (by kernel_rfl) rfl
    (fun f fn hf hfn => by
      obtain rfl : f = 6 := Option.some.inj ((show Tryz.prog.funcNamed "bipole/bipolelaw04.HarmonicSeparates" = some 6 by kernel_rfl).symm.trans hf) |>.symm
      obtain rfl : fn = Tryz.f6 := (Option.some.inj (Tryz.func6.symm.trans hfn)).symm
      exact ⟨by kernel_rfl, fun j t ht => by
        rw [Tryz.params6] at ht
        have hm := Array.mem_of_getElem? ht
        have hall : (#[47, 48, 95].all fun u => !Tryz.prog.wantsStandIn u) = true := by kernel_rfl
        exact (show Tryz.prog.wantsStandIn t = false by simpa using Array.all_eq_true'.1 hall t hm)⟩)
    (by kernel_rfl)

#print axioms sep_card

end Go.Proofs.YtlohcnecehlljaaGreatDoor

/- Proves the tied card of the law TopShackleTapped: it returns true at every input and leaves its arguments as they were. Conditions: those of the given row and its card. -/
import Derived.Test.YtpkaoechbmbolaaGreatDoorLawTap
import Derived.Test.YtpkaoechbmbolaaGreatDoorArr
import Derived.Test.YtpkaoechbmbolaaGreatDoorRowBaP
import Derived.Test.YtpkaoechbmbolaaGreatDoorCards
import Derived.Test.YtpkaoechbmbolaaGreatDoorTie
import Derived.Deep.SlicePairs
import Derived.SevenTiedAt
namespace Go.Proofs.YtpkaoechbmbolaaGreatDoor
open Go.ChangeShapes Go.WideShapes Go.ChangeAt Go.RowKit
set_option linter.unusedVariables false

theorem wfu8 {x : Int} (h : (Lit.int .u8 x).wf = true) : 0 ≤ x ∧ x ≤ 255 := by
  have e1 : IntKind.u8.min = 0 := by decide
  have e2 : IntKind.u8.max = 255 := by decide
  simpa [Lit.wf, e1, e2] using h
theorem array1 {α : Type} {cs : Array α} (h : cs.size = 1) : ∃ c0, cs = #[c0] := by
  obtain ⟨l⟩ := cs
  match l, h with
  | [c0], _ => exact ⟨c0, rfl⟩
set_option maxRecDepth 100000 in
theorem pairs_of_trod {H : Type} {enc : TypeId × Value → H} {W : World} {fuel : Nat} {v : Value} {x : DataW H × List MemPlace}
    (hf : DataW.trod enc Tryz.prog W 0 (fun _ => true) true fuel 22 [v] = some x) : ∃ l : List (Int × Int), Pairs W v l := by
  have hi : Tryz.prog.underlying 3 = some (.int .i64) := by kernel_rfl
  have hc : Tryz.prog.cellsOf 3 = 1 := by kernel_rfl
  rcases Go.Deep.open_slice_pairs Tryz.underlying22 Tryz.underlying36 (by kernel_rfl) rfl rfl hc hc hf with ⟨hcs, hx⟩ | ⟨a, len', cap', m, n, V0, V1, D0, D1, P0, P1, hcs, _, hl, hm, hmm, hx, hcell⟩
  · simp at hcs
    subst hcs
    exact ⟨[], none, 0, rfl, Nat.le_refl _, fun h => by simp at h⟩
  · simp at hcs
    subst hcs
    simp only [if_true] at hmm
    subst hmm
    have each : ∀ i, i < m → ∃ q : Int × Int, W.cell? (a.add (i * 2)) = some (.int .i64 q.1) ∧ W.cell? (a.add (i * 2 + 1)) = some (.int .i64 q.2) := fun i hi' => by
      obtain ⟨e0, e1, t0, t1⟩ := hcell i hi'
      obtain ⟨x, x0, _, _⟩ := DataW.trod_int hi t0
      obtain ⟨y, y0, _, _⟩ := DataW.trod_int hi t1
      simp at x0 y0
      exact ⟨(x, y), by rw [e0, x0], by rw [e1, y0]⟩
    obtain ⟨q, hq⟩ := Go.Deep.choose_lt each
    refine ⟨(List.range len').map q, some a, m, by simp, by simpa using hl, fun h0 => ?_⟩
    simp at h0
    obtain ⟨b, off, spot⟩ := a
    have hspot : spot = none := by simpa [Addr.add] using World.cell?_spot (hq 0 (by omega)).1
    subst hspot
    refine ⟨b, off, rfl, fun j x hj => ?_⟩
    have hjl := (List.getElem?_eq_some_iff.1 hj).1
    simp at hjl
    rw [List.getElem?_map, List.getElem?_range hjl] at hj
    cases hj
    obtain ⟨h1, h2⟩ := hq j (by omega)
    rw [addr_add] at h1 h2
    exact ⟨h1, by rw [← Nat.add_assoc] at h2; exact h2⟩
set_option maxRecDepth 100000 in
theorem open_filterArg {H : Type} {enc : TypeId × Value → H} {W : World} {r : Reach} {b0 : Nat} {v : Value} {d : DataW H} {p : List MemPlace}
    (hval : Value.okWide Tryz.prog W r b0 24 v) (hd : DataW.Trod enc Tryz.prog W 0 (fun _ => true) true 24 v d p) : ∃ (u : Value) (l : List (Int × Int)), v = .agg #[u] ∧ Pairs W u l := by
  have hc : Tryz.prog.cellsOf 24 = 1 := by kernel_rfl
  have hc2 : Tryz.prog.cellsOf 22 = 1 := by kernel_rfl
  obtain ⟨cs, rfl, hsz⟩ := okWide_struct Tryz.underlying24 hval
  obtain ⟨c0, rfl⟩ := array1 (hsz.trans hc)
  obtain ⟨fuel, hf⟩ := hd
  obtain ⟨xs, n, _, _, hl, hlen, hf⟩ := DataW.trod_struct Tryz.underlying24 hf
  match xs, hlen with
  | [y0], _ =>
    have h0 := hf 0 _ rfl
    simp [Value.cells, hc2] at h0
    obtain ⟨l, hP⟩ := pairs_of_trod h0
    exact ⟨c0, l, rfl, hP⟩
set_option maxRecDepth 100000 in
theorem open_pairsArg {H : Type} {enc : TypeId × Value → H} {W : World} {r : Reach} {b0 : Nat} {v : Value} {d : DataW H} {p : List MemPlace}
    (hval : Value.okWide Tryz.prog W r b0 25 v) (hd : DataW.Trod enc Tryz.prog W 0 (fun _ => true) true 25 v d p) : ∃ l : List (Int × Int), Pairs W v l := by
  have hi : Tryz.prog.underlying 3 = some (.int .i64) := by kernel_rfl
  have hc : Tryz.prog.cellsOf 3 = 1 := by kernel_rfl
  obtain ⟨a0, len, cap, rfl⟩ := okWide_slice Tryz.underlying25 hval
  obtain ⟨fuel, hf⟩ := hd
  rcases Go.Deep.open_slice_pairs Tryz.underlying25 Tryz.underlying63 (by kernel_rfl) rfl rfl hc hc hf with ⟨hcs, hx⟩ | ⟨a, len', cap', m, n, V0, V1, D0, D1, P0, P1, hcs, _, hl, hm, hmm, hx, hcell⟩
  · simp [Value.cells] at hcs
    obtain ⟨rfl, rfl, rfl⟩ := hcs
    exact ⟨[], none, 0, rfl, Nat.le_refl _, fun h => by simp at h⟩
  · simp [Value.cells] at hcs
    obtain ⟨rfl, rfl, rfl⟩ := hcs
    simp only [if_true] at hmm
    subst hmm
    have each : ∀ i, i < m → ∃ q : Int × Int, W.cell? (a.add (i * 2)) = some (.int .i64 q.1) ∧ W.cell? (a.add (i * 2 + 1)) = some (.int .i64 q.2) := fun i hi' => by
      obtain ⟨e0, e1, t0, t1⟩ := hcell i hi'
      obtain ⟨x, x0, _, _⟩ := DataW.trod_int hi t0
      obtain ⟨y, y0, _, _⟩ := DataW.trod_int hi t1
      simp at x0 y0
      exact ⟨(x, y), by rw [e0, x0], by rw [e1, y0]⟩
    obtain ⟨q, hq⟩ := Go.Deep.choose_lt each
    refine ⟨(List.range len).map q, some a, m, by simp, by simpa using hl, fun h0 => ?_⟩
    simp at h0
    obtain ⟨b, off, spot⟩ := a
    have hspot : spot = none := by simpa [Addr.add] using World.cell?_spot (hq 0 (by omega)).1
    subst hspot
    refine ⟨b, off, rfl, fun j x hj => ?_⟩
    have hjl := (List.getElem?_eq_some_iff.1 hj).1
    simp at hjl
    rw [List.getElem?_map, List.getElem?_range hjl] at hj
    cases hj
    obtain ⟨h1, h2⟩ := hq j (by omega)
    rw [addr_add] at h1 h2
    exact ⟨h1, by rw [← Nat.add_assoc] at h2; exact h2⟩

set_option maxRecDepth 100000 in
theorem tap_lifted (os : Os) (started : os.Started) (H : Type) (enc : TypeId × Value → H) :
    ReturnsInHanded {} Tryz.checked os 3 .any (fun w args => (Rows.topShackleTappedSpec.pre enc Tryz.prog Tryz.f3 [] false w args ∧ laidMetH Tryz.prog Rows.topShackleTappedRow.laid w) ∧ sizedMet enc Tryz.prog Tryz.f3 (OpenSpec.ofChange Rows.topShackleTappedSpec) false w args)
      (Rows.topShackleTappedSpec.post enc Tryz.prog Tryz.f3 false true false false) := by
  refine returnsInHanded_of_change_and (C := Tryz.checked) (X := fun w _ => laidMetH Tryz.prog Rows.topShackleTappedRow.laid w) (fun _ _ _ hh h => h.of_heap hh) own started (by kernel_rfl) Tryz.func3
    (ChangeSpec.witness_shaped (enc := enc) (C := Tryz.checked) (os := os) (X := fun w _ => laidMetH Tryz.prog Rows.topShackleTappedRow.laid w) false (World.doorLaid Tryz.prog 400 os) #[.agg #[.slice none 0 0], .slice none 0 0, .agg #[.int .u8 0, .int .u8 0]] 8 rfl (World.shaped_of_RefB (by kernel_rfl) (by kernel_rfl)) (by kernel_rfl) (by kernel_rfl) (by kernel_rfl) (door_met os _)) ?_
  intro W base args ds gs before hval0 hW _ _ hL _
  have hval : ∀ (j : Nat) t v, Tryz.f3.params[j]? = some t → args[j]? = some v → Value.okWide Tryz.prog W .any base t v := hval0
  have hW' := hW
  obtain ⟨p, q, hA0, hV, rfl, hfz, hnd⟩ := hW
  have hA : DataW.TrodAll enc Tryz.prog W 0 (fun _ => true) true Tryz.f3.params.toList args.toList ds p := hA0
  rw [Tryz.params3] at hA hval
  obtain ⟨v0, vs0, d0, ds0, p0, q0, hargs, rfl, rfl, h0, r0⟩ := trodAll_cons hA
  obtain ⟨v1, vs1, d1, ds1, p1, q1, rfl, rfl, rfl, h1, r1⟩ := trodAll_cons r0
  obtain ⟨v2, vs2, d2, ds2, p2, q2, rfl, rfl, rfl, h2, r2⟩ := trodAll_cons r1
  obtain ⟨rfl, rfl, rfl⟩ := trodAll_nil r2
  obtain rfl : args = #[v0, v1, v2] := by cases args; simp_all
  obtain ⟨rfl, rfl⟩ := trodVars_none hV
  obtain ⟨v0, l0, rfl, i0⟩ := open_filterArg (hval 0 24 v0 rfl rfl) h0
  obtain ⟨l1, i1⟩ := open_pairsArg (hval 1 25 v1 rfl rfl) h1
  obtain ⟨a2, b2, rfl, rfl, wa2, wb2⟩ := open_arr2 Tryz.underlying26 Tryz.underlying5 (by kernel_rfl) (by kernel_rfl) (hval 2 26 v2 rfl rfl) h2
  clear hA0 hval0
  have hQ := laid_facts hL
  refine (tap_law v0 v1 l0 l1 a2 b2 W hQ i0 i1 (wfu8 wa2) (wfu8 wb2)).mono fun e W' ⟨he, bel⟩ => ?_
  subst he
  exact ⟨_, rfl, _, _, _, [], _, [], hW', trodAll_mk1 (shut_bool Tryz.underlying4 _), (trodAll_cons_mk (Below.trod laidOut (by kernel_rfl) (of_decide_eq_true (by kernel_rfl)) h0 bel (trod_places h0)) (trodAll_cons_mk (Below.trod laidOut (by kernel_rfl) (of_decide_eq_true (by kernel_rfl)) h1 bel (trod_places h1)) (trodAll_cons_mk (Below.trod laidOut (by kernel_rfl) (of_decide_eq_true (by kernel_rfl)) h2 bel (trod_places h2)) trodAll_mk0))), rfl, bel.frame _, fun h => by cases h⟩

set_option maxHeartbeats 8000000 in
theorem tap_holds : Rows.TopShackleTappedSaid :=
  OpenClaim.holds_of_wide 3 Tryz.f3 rfl rfl rfl rfl rfl rfl rfl ⟨rfl, rfl, rfl, rfl, rfl⟩ rfl rfl rfl rfl rfl (by as_aux_lemma => kernel_rfl) Tryz.func3 (by as_aux_lemma => kernel_rfl)
    (of_decide_eq_true (by as_aux_lemma => kernel_rfl)) (by unfold Func.isWrapper; first | (rw [if_pos (by decide +kernel)]; kernel_rfl) | (rw [if_neg (by decide +kernel)]; exact ⟨rfl, rfl⟩))
    (fun os started H enc _ => tap_lifted os started H enc)

/-- the statement. -/
theorem tap_card : Rows.TopShackleTappedCardSaid :=
  Claim7.holds_tied_plain_at .later [] [.data] true (true, "6f530cfacdf76bbfabc9cdf587017bfe4b09a2b991eea2da3375fc197d8602cf") false
    tap_holds (fun _ h => by cases h) (by kernel_rfl) (fun _ h => by cases h) topShackleTapped_row_tie rfl ⟨rfl, rfl⟩ (by kernel_rfl) rfl
    (fun f fn hf hfn => by
      obtain rfl : f = 3 := Option.some.inj ((show Tryz.prog.funcNamed "bipole/bipoletop.TopShackleTapped" = some 3 by kernel_rfl).symm.trans hf) |>.symm
      obtain rfl : fn = Tryz.f3 := (Option.some.inj (Tryz.func3.symm.trans hfn)).symm
      exact ⟨by kernel_rfl, fun j t ht => by
        rw [Tryz.params3] at ht
        have hm := Array.mem_of_getElem? ht
        have hall : (#[24, 25, 26].all fun u => !Tryz.prog.wantsStandIn u) = true := by kernel_rfl
        exact (show Tryz.prog.wantsStandIn t = false by simpa using Array.all_eq_true'.1 hall t hm)⟩)
    (by kernel_rfl)

#print axioms tap_card

end Go.Proofs.YtpkaoechbmbolaaGreatDoor

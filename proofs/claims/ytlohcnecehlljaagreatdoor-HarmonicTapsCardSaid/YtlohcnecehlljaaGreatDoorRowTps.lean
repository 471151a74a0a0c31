/- Proves the tied card of the law HarmonicTaps: it returns true at every input and leaves its arguments as they were. Conditions: those of the given row and its card. -/
import Derived.Test.YtlohcnecehlljaaGreatDoorLawTps
import Derived.Test.YtlohcnecehlljaaGreatDoorRowBaH
import Derived.Test.YtlohcnecehlljaaGreatDoorCards
import Derived.Test.YtlohcnecehlljaaGreatDoorTie
import Derived.Deep.SlicePairs
import Derived.Lib.SmallJoins
import Derived.SevenTiedAt
namespace Go.Proofs.YtlohcnecehlljaaGreatDoor
open Go.ChangeShapes Go.WideShapes Go.ChangeAt Go.RowKit
set_option linter.unusedVariables false

theorem array1 {α : Type} {cs : Array α} (h : cs.size = 1) : ∃ c0, cs = #[c0] := by
  obtain ⟨l⟩ := cs
  match l, h with
  | [c0], _ => exact ⟨c0, rfl⟩
set_option maxRecDepth 100000 in
theorem pairs_of_trod {H : Type} {enc : TypeId × Value → H} {W : World} {fuel : Nat} {v : Value} {x : DataW H × List MemPlace}
    (hf : DataW.trod enc Tryz.prog W 0 (fun _ => true) true fuel 45 [v] = some x) : ∃ l : List (Int × Int), Pairs W v l := by
  have hi : Tryz.prog.underlying 3 = some (.int .i64) := by kernel_rfl
  have hc : Tryz.prog.cellsOf 3 = 1 := by kernel_rfl
  rcases Go.Deep.open_slice_pairs Tryz.underlying45 Tryz.underlying141 (by kernel_rfl) rfl rfl hc hc hf with ⟨hcs, hx⟩ | ⟨a, len', cap', m, n, V0, V1, D0, D1, P0, P1, hcs, _, hl, hm, hmm, hx, hcell⟩
  · simp at hcs
    subst hcs
    exact ⟨[], none, 0, rfl, Nat.le_refl _, fun h => by simp at h⟩
  · simp at hcs
    subst hcs
    simp only [if_true] at hmm
    subst hmm
    have each : ∀ i, i < m → ∃ q : Int × Int, W.cell? (a.add (i * 2)) = some (.int .i64 q.1) ∧ W.cell? (a.add (i * 2 + 1)) = some (.int .i64 q.2) := fun i hi' => by
      obtain ⟨e0, e1, t0, t1⟩ := hcell i hi'
      obtain ⟨x, x0, _, _⟩ := DataW.trod_int hi t0
      obtain ⟨y, y0, _, _⟩ := DataW.trod_int hi t1
      simp at x0 y0
      exact ⟨(x, y), by rw [e0, x0], by rw [e1, y0]⟩
    obtain ⟨q, hq⟩ := Go.Deep.choose_lt each
    refine ⟨(List.range len').map q, some a, m, by simp, by simpa using hl, fun h0 => ?_⟩
    simp at h0
    obtain ⟨b, off, spot⟩ := a
    have hspot : spot = none := by simpa [Addr.add] using World.cell?_spot (hq 0 (by omega)).1
    subst hspot
    refine ⟨b, off, rfl, fun j x hj => ?_⟩
    have hjl := (List.getElem?_eq_some_iff.1 hj).1
    simp at hjl
    rw [List.getElem?_map, List.getElem?_range hjl] at hj
    cases hj
    obtain ⟨h1, h2⟩ := hq j (by omega)
    rw [addr_add] at h1 h2
    exact ⟨h1, by rw [← Nat.add_assoc] at h2; exact h2⟩
set_option maxRecDepth 100000 in
theorem open_filterArg {H : Type} {enc : TypeId × Value → H} {W : World} {r : Reach} {b0 : Nat} {v : Value} {d : DataW H} {p : List MemPlace}
    (hval : Value.okWide Tryz.prog W r b0 47 v) (hd : DataW.Trod enc Tryz.prog W 0 (fun _ => true) true 47 v d p) : ∃ (u : Value) (l : List (Int × Int)), v = .agg #[u] ∧ Pairs W u l := by
  have hc : Tryz.prog.cellsOf 47 = 1 := by kernel_rfl
  have hc2 : Tryz.prog.cellsOf 45 = 1 := by kernel_rfl
  obtain ⟨cs, rfl, hsz⟩ := okWide_struct Tryz.underlying47 hval
  obtain ⟨c0, rfl⟩ := array1 (hsz.trans hc)
  obtain ⟨fuel, hf⟩ := hd
  obtain ⟨xs, n, _, _, hl, hlen, hf⟩ := DataW.trod_struct Tryz.underlying47 hf
  match xs, hlen with
  | [y0], _ =>
    have h0 := hf 0 _ rfl
    simp [Value.cells, hc2] at h0
    obtain ⟨l, hP⟩ := pairs_of_trod h0
    exact ⟨c0, l, rfl, hP⟩
set_option maxRecDepth 100000 in
theorem open_pairsArg {H : Type} {enc : TypeId × Value → H} {W : World} {r : Reach} {b0 : Nat} {v : Value} {d : DataW H} {p : List MemPlace}
    (hval : Value.okWide Tryz.prog W r b0 48 v) (hd : DataW.Trod enc Tryz.prog W 0 (fun _ => true) true 48 v d p) : ∃ l : List (Int × Int), Pairs W v l := by
  have hi : Tryz.prog.underlying 3 = some (.int .i64) := by kernel_rfl
  have hc : Tryz.prog.cellsOf 3 = 1 := by kernel_rfl
  obtain ⟨a0, len, cap, rfl⟩ := okWide_slice Tryz.underlying48 hval
  obtain ⟨fuel, hf⟩ := hd
  rcases Go.Deep.open_slice_pairs Tryz.underlying48 Tryz.underlying98 (by kernel_rfl) rfl rfl hc hc hf with ⟨hcs, hx⟩ | ⟨a, len', cap', m, n, V0, V1, D0, D1, P0, P1, hcs, _, hl, hm, hmm, hx, hcell⟩
  · simp [Value.cells] at hcs
    obtain ⟨rfl, rfl, rfl⟩ := hcs
    exact ⟨[], none, 0, rfl, Nat.le_refl _, fun h => by simp at h⟩
  · simp [Value.cells] at hcs
    obtain ⟨rfl, rfl, rfl⟩ := hcs
    simp only [if_true] at hmm
    subst hmm
    have each : ∀ i, i < m → ∃ q : Int × Int, W.cell? (a.add (i * 2)) = some (.int .i64 q.1) ∧ W.cell? (a.add (i * 2 + 1)) = some (.int .i64 q.2) := fun i hi' => by
      obtain ⟨e0, e1, t0, t1⟩ := hcell i hi'
      obtain ⟨x, x0, _, _⟩ := DataW.trod_int hi t0
      obtain ⟨y, y0, _, _⟩ := DataW.trod_int hi t1
      simp at x0 y0
      exact ⟨(x, y), by rw [e0, x0], by rw [e1, y0]⟩
    obtain ⟨q, hq⟩ := Go.Deep.choose_lt each
    refine ⟨(List.range len).map q, some a, m, by simp, by simpa using hl, fun h0 => ?_⟩
    simp at h0
    obtain ⟨b, off, spot⟩ := a
    have hspot : spot = none := by simpa [Addr.add] using World.cell?_spot (hq 0 (by omega)).1
    subst hspot
    refine ⟨b, off, rfl, fun j x hj => ?_⟩
    have hjl := (List.getElem?_eq_some_iff.1 hj).1
    simp at hjl
    rw [List.getElem?_map, List.getElem?_range hjl] at hj
    cases hj
    obtain ⟨h1, h2⟩ := hq j (by omega)
    rw [addr_add] at h1 h2
    exact ⟨h1, by rw [← Nat.add_assoc] at h2; exact h2⟩
set_option maxRecDepth 100000 in
theorem ints_of_trod {H : Type} {enc : TypeId × Value → H} {W : World} {T : TypeId} {fuel : Nat} {v : Value} {x : DataW H × List MemPlace} (hT : Tryz.prog.underlying T = some (.slice 3))
    (hf : DataW.trod enc Tryz.prog W 0 (fun _ => true) true fuel T [v] = some x) : ∃ l : List Int, Ints W v l ∧ ∀ x ∈ l, (Lit.int .i64 x).wf = true := by
  have hi : Tryz.prog.underlying 3 = some (.int .i64) := by kernel_rfl
  have hc : Tryz.prog.cellsOf 3 = 1 := by kernel_rfl
  rcases open_ints hT hi hc hf with ⟨hcs, hx⟩ | ⟨a, len, cap, zs, hcs, _, hl, hm, hz, hx, hcell, hwz⟩
  · simp at hcs
    subst hcs
    exact ⟨[], Ints.nil W, fun x hx => by simp at hx⟩
  · simp at hcs
    subst hcs
    simp only [if_true] at hz
    refine ⟨zs.take len, ⟨some a, cap, by rw [List.length_take, hz, Nat.min_eq_left hl], by rw [List.length_take, hz, Nat.min_eq_left hl]; exact hl, fun h0 => ?_⟩, fun x hx => hwz x (List.mem_of_mem_take hx)⟩
    rw [List.length_take, hz, Nat.min_eq_left hl] at h0
    obtain ⟨b, off, spot⟩ := a
    have hspot : spot = none := by simpa [Addr.add] using World.cell?_spot (hcell 0 (by omega))
    subst hspot
    refine ⟨b, off, rfl, fun j hj => ?_⟩
    rw [List.length_take, hz, Nat.min_eq_left hl] at hj
    have := hcell j (by omega)
    rw [addr_add] at this
    rw [this, List.getElem?_take, if_pos hj]
    rfl

set_option maxRecDepth 100000 in
theorem open_askedArg {H : Type} {enc : TypeId × Value → H} {W : World} {r : Reach} {b0 : Nat} {v : Value} {d : DataW H} {p : List MemPlace}
    (hval : Value.okWide Tryz.prog W r b0 50 v) (hd : DataW.Trod enc Tryz.prog W 0 (fun _ => true) true 50 v d p) :
    ∃ (a b c : Int) (u : Value) (l : List Int), v = .agg #[.int .i64 a, .int .i64 b, .int .i64 c, u] ∧ Ints W u l := by
  have hi : Tryz.prog.underlying 3 = some (.int .i64) := by kernel_rfl
  obtain ⟨v0, v1, v2, v3, y0, y1, y2, y3, n, rfl, _, _, h0, h1, h2, h3⟩ := Go.Joins.open_agg4 Tryz.underlying50 (by kernel_rfl) (by kernel_rfl) hval hd
  obtain ⟨a, a0, _, _⟩ := DataW.trod_int hi h0
  obtain ⟨b, b0, _, _⟩ := DataW.trod_int hi h1
  obtain ⟨c, c0, _, _⟩ := DataW.trod_int hi h2
  obtain ⟨l, i3, _⟩ := ints_of_trod Tryz.underlying27 h3
  simp at a0 b0 c0
  subst a0 b0 c0
  exact ⟨a, b, c, v3, l, rfl, i3⟩

set_option maxRecDepth 100000 in
theorem tps_lifted (os : Os) (started : os.Started) (H : Type) (enc : TypeId × Value → H) :
    ReturnsInHanded {} Tryz.checked os 4 .any (fun w args => (Rows.harmonicTapsSpec.pre enc Tryz.prog Tryz.f4 [] false w args ∧ laidMetH Tryz.prog Rows.harmonicTapsRow.laid w) ∧ sizedMet enc Tryz.prog Tryz.f4 (OpenSpec.ofChange Rows.harmonicTapsSpec) false w args)
      (Rows.harmonicTapsSpec.post enc Tryz.prog Tryz.f4 false true false false) := by
  refine returnsInHanded_of_change_and (C := Tryz.checked) (X := fun w _ => laidMetH Tryz.prog Rows.harmonicTapsRow.laid w) (fun _ _ _ hh h => h.of_heap hh) own started (by kernel_rfl) Tryz.func4
    (ChangeSpec.witness_shaped (enc := enc) (C := Tryz.checked) (os := os) (X := fun w _ => laidMetH Tryz.prog Rows.harmonicTapsRow.laid w) false (World.doorLaid Tryz.prog 400 os) #[.agg #[.slice none 0 0], .slice none 0 0, .agg #[.int .i64 0, .int .i64 0, .int .i64 0, .slice none 0 0]] 8 rfl (World.shaped_of_RefB (by kernel_rfl) (by kernel_rfl)) (by kernel_rfl) (by kernel_rfl) (by kernel_rfl) (door_met os _)) ?_
  intro W base args ds gs before hval0 hW _ _ hL _
  have hval : ∀ (j : Nat) t v, Tryz.f4.params[j]? = some t → args[j]? = some v → Value.okWide Tryz.prog W .any base t v := hval0
  have hW' := hW
  obtain ⟨p, q, hA0, hV, rfl, hfz, hnd⟩ := hW
  have hA : DataW.TrodAll enc Tryz.prog W 0 (fun _ => true) true Tryz.f4.params.toList args.toList ds p := hA0
  rw [Tryz.params4] at hA hval
  obtain ⟨v0, vs0, d0, ds0, p0, q0, hargs, rfl, rfl, h0, r0⟩ := trodAll_cons hA
  obtain ⟨v1, vs1, d1, ds1, p1, q1, rfl, rfl, rfl, h1, r1⟩ := trodAll_cons r0
  obtain ⟨v2, vs2, d2, ds2, p2, q2, rfl, rfl, rfl, h2, r2⟩ := trodAll_cons r1
  obtain ⟨rfl, rfl, rfl⟩ := trodAll_nil r2
  obtain rfl : args = #[v0, v1, v2] := by cases args; simp_all
  obtain ⟨rfl, rfl⟩ := trodVars_none hV
  obtain ⟨v0, l0, rfl, i0⟩ := open_filterArg (hval 0 47 v0 rfl rfl) h0
  obtain ⟨l1, i1⟩ := open_pairsArg (hval 1 48 v1 rfl rfl) h1
  obtain ⟨a2, b2, c2, u2, l2, rfl, i2⟩ := open_askedArg (hval 2 50 v2 rfl rfl) h2
  clear hA0 hval0
  obtain ⟨hQ, hP⟩ := laid_facts hL
  refine (tps_law v0 v1 u2 l0 l1 l2 a2 b2 c2 W hQ hP i0 i1 i2).mono fun e W' ⟨he, bel⟩ => ?_
  subst he
  exact ⟨_, rfl, _, _, _, [], _, [], hW', trodAll_mk1 (shut_bool Tryz.underlying4 _), (trodAll_cons_mk (Below.trod laidOut (by kernel_rfl) (of_decide_eq_true (by kernel_rfl)) h0 bel (trod_places h0)) (trodAll_cons_mk (Below.trod laidOut (by kernel_rfl) (of_decide_eq_true (by kernel_rfl)) h1 bel (trod_places h1)) (trodAll_cons_mk (Below.trod laidOut (by kernel_rfl) (of_decide_eq_true (by kernel_rfl)) h2 bel (trod_places h2)) trodAll_mk0))), rfl, bel.frame _, fun h => by cases h⟩

set_option maxHeartbeats 8000000 in
theorem tps_holds : Rows.HarmonicTapsSaid :=
  OpenClaim.holds_of_wide 4 Tryz.f4 rfl rfl rfl rfl rfl rfl rfl ⟨rfl, rfl, rfl, rfl, rfl⟩ rfl rfl rfl rfl rfl (by as_aux_lemma => kernel_rfl) Tryz.func4 (by as_aux_lemma => kernel_rfl)
    (of_decide_eq_true (by as_aux_lemma => kernel_rfl)) (by unfold Func.isWrapper; first | (rw [if_pos (by decide +kernel)]; kernel_rfl) | (rw [if_neg (by decide +kernel)]; exact ⟨rfl, rfl⟩))
    (fun os started H enc _ => tps_lifted os started H enc)

/-- the statement. -/
theorem tps_card : Rows.HarmonicTapsCardSaid :=
  Claim7.holds_tied_plain_at .later [] [.data, .data, .data, .data] true (true, "0ce70413bc057e53f98fa178068c0211126843f1bfcddfdcfab653b3ce8311b2") false
    tps_holds (fun _ h => by cases h) (by kernel_rfl) (fun _ h => by cases h) harmonicTaps_row_tie rfl ⟨rfl, rfl⟩ (by kernel_rfl) rfl
    (fun f fn hf hfn => by
      obtain rfl : f = 4 := Option.some.inj ((show Tryz.prog.funcNamed "bipole/bipolelaw04.HarmonicTaps" = some 4 by kernel_rfl).symm.trans hf) |>.symm
      obtain rfl : fn = Tryz.f4 := (Option.some.inj (Tryz.func4.symm.trans hfn)).symm
      exact ⟨by kernel_rfl, fun j t ht => by
        rw [Tryz.params4] at ht
        have hm := Array.mem_of_getElem? ht
        have hall : (#[47, 48, 50].all fun u => !Tryz.prog.wantsStandIn u) = true := by kernel_rfl
        exact (show Tryz.prog.wantsStandIn t = false by simpa using Array.all_eq_true'.1 hall t hm)⟩)
    (by kernel_rfl)

#print axioms tps_card

end Go.Proofs.YtlohcnecehlljaaGreatDoor

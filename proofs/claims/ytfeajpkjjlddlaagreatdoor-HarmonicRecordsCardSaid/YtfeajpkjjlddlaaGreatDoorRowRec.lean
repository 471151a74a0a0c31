/- Proves the tied card of the law HarmonicRecords: it returns true at every input and leaves its arguments as they were. Conditions: those of the given row and its card. -/
import Derived.Test.YtfeajpkjjlddlaaGreatDoorLawRec
import Derived.ProofKit
import Derived.OpenShut
import Derived.ChangeOld
import Derived.Test.YtfeajpkjjlddlaaGreatDoorRowBaR
import Derived.Deep.SlicePairs
import Derived.Test.YtfeajpkjjlddlaaGreatDoorCards
import Derived.Test.YtfeajpkjjlddlaaGreatDoorTie
import Derived.SevenTiedAt
namespace Go.Proofs.YtfeajpkjjlddlaaGreatDoor
section
open Go.ChangeShapes Go.WideShapes Go.ChangeAt Go.RowKit
set_option linter.unusedVariables false

theorem mapM_some {α β : Type} (g : α → Option β) (l : List α) (ys : List β) (h : l.mapM g = some ys) : ys.length = l.length ∧ ∀ (i : Nat) (x : α) (y : β), l[i]? = some x → ys[i]? = some y → g x = some y := by
  induction l generalizing ys with
  | nil => simp at h; subst h; exact ⟨rfl, fun i x y hx => by simp at hx⟩
  | cons a l ih =>
    rw [List.mapM_cons] at h
    simp only [bind, Option.bind_eq_some_iff, pure, Option.some.injEq] at h
    obtain ⟨b, hb, zs, hz, rfl⟩ := h
    obtain ⟨h1, h2⟩ := ih zs hz
    refine ⟨by simp [h1], fun i x y hx hy => ?_⟩
    cases i with
    | zero => simp at hx hy; subst hx hy; exact hb
    | succ i => exact h2 i x y (by simpa using hx) (by simpa using hy)

theorem trod_f32 {H : Type} {enc : TypeId × Value → H} {P : Program} {w : World} {base : Nat} {spare : Nat → Bool} {held : Bool} {fuel : Nat} {t : TypeId} {cs : List Value} {x : DataW H × List MemPlace} {k : FloatKind} (ht : P.underlying t = some (.float k))
    (h : DataW.trod enc P w base spare held fuel t cs = some x) : ∃ b, cs = [.float k b] ∧ x = (.lit (.float k b), []) := by
  cases fuel with
  | zero => simp [DataW.trod] at h
  | succ n =>
    unfold DataW.trod at h
    rw [ht] at h
    split at h <;> simp_all
set_option maxRecDepth 100000 in
theorem open_samples {H : Type} {enc : TypeId × Value → H} {W : World} {r : Reach} {b0 : Nat} {v : Value} {d : DataW H} {p : List MemPlace}
    (hval : Value.okWide Tryz.prog W r b0 27 v) (hd : DataW.Trod enc Tryz.prog W 0 (fun _ => true) true 27 v d p) : ∃ l : List Nat, Vals W v (xsV l) := by
  have hi : Tryz.prog.underlying 99 = some (.float .f32) := by kernel_rfl
  have hc : Tryz.prog.cellsOf 99 = 1 := by kernel_rfl
  obtain ⟨a0, len, cap, rfl⟩ := okWide_slice Tryz.underlying27 hval
  obtain ⟨fuel, hf⟩ := hd
  rcases DataW.trod_slice Tryz.underlying27 hf with ⟨hcs, hx⟩ | ⟨a, len', cap', elems, rest, n, _, hcs, hx, hb, hl, hm, hlen, hel, hsp, hns⟩
  · simp [Value.cells] at hcs
    obtain ⟨rfl, rfl, rfl⟩ := hcs
    exact ⟨[], Vals.nil W⟩
  · simp [Value.cells] at hcs
    obtain ⟨rfl, rfl, rfl⟩ := hcs
    have each : ∀ i, i < len → ∃ q : Nat, W.cell? (a.add i) = some (.float .f32 q) := fun i hi' => by
      have h1 := hel i hi'
      rw [hc, Nat.mul_one, List.getElem?_eq_getElem (by omega), Option.bind_eq_some_iff] at h1
      obtain ⟨cs', hcs, hy'⟩ := h1
      obtain ⟨m, rfl, _⟩ := trod_f32 hi hy'
      exact ⟨m, cell_of_cells?_one hcs⟩
    obtain ⟨q, hq⟩ := Go.Deep.choose_lt each
    refine ⟨(List.range len).map q, some a, cap, by simp [xsV], by simpa [xsV] using hl, fun h0 => ?_⟩
    simp [xsV] at h0
    obtain ⟨b, off, spot⟩ := a
    have hspot : spot = none := by simpa [Addr.add] using World.cell?_spot (hq 0 (by omega))
    subst hspot
    refine ⟨b, off, rfl, fun j x hj => ?_⟩
    have hjl := (List.getElem?_eq_some_iff.1 hj).1
    simp [xsV] at hjl
    unfold xsV at hj
    rw [List.getElem?_map, List.getElem?_map, List.getElem?_range hjl] at hj
    cases hj
    have := hq j hjl
    rw [addr_add] at this
    exact this
set_option maxRecDepth 100000 in
theorem cyclo_cells {H : Type} {enc : TypeId × Value → H} {w : World} {base : Nat} {sp : Nat → Bool} {held : Bool} {fuel : Nat} {cs : List Value} {y : DataW H × List MemPlace}
    (hf : DataW.trod enc Tryz.prog w base sp held fuel 25 cs = some y) : ∃ a b c d : Int, cs = [.int .i64 a, .int .i64 b, .int .i64 c, .int .i64 d] := by
  have he : Tryz.prog.cellsOf 23 = 2 := by kernel_rfl
  have hg : Tryz.prog.cellsOf 25 = 4 := by kernel_rfl
  obtain ⟨y0, y1, n, hx, hl, h0, h1⟩ := trod_struct2 Tryz.underlying25 hf
  rw [hg] at hl
  match cs, hl with
  | [c0, c1, c2, c3], _ =>
    simp only [he] at h0 h1
    obtain ⟨a, b, k0⟩ := eisen_cells h0
    obtain ⟨c, d, k1⟩ := eisen_cells h1
    simp at k0 k1
    obtain ⟨rfl, rfl⟩ := k0
    obtain ⟨rfl, rfl⟩ := k1
    exact ⟨a, b, c, d, rfl⟩
set_option maxRecDepth 100000 in
theorem open_spec {H : Type} {enc : TypeId × Value → H} {W : World} {r : Reach} {b0 : Nat} {v : Value} {d : DataW H} {p : List MemPlace}
    (hval : Value.okWide Tryz.prog W r b0 26 v) (hd : DataW.Trod enc Tryz.prog W 0 (fun _ => true) true 26 v d p) : ∃ S : List Int, S.length = 48 ∧ v = .agg (ia S) := by
  have hT : Tryz.prog.underlying 26 = some (.array 12 25) := Tryz.underlying26
  have hcT : Tryz.prog.cellsOf 26 = 48 := by kernel_rfl
  have hcE : Tryz.prog.cellsOf 25 = 4 := by kernel_rfl
  simp only [Value.okWide, hT] at hval
  obtain ⟨cs, rfl, hc, _⟩ := hval
  rw [hcT] at hc
  obtain ⟨fuel, hf⟩ := hd
  cases fuel with
  | zero => simp [DataW.trod] at hf
  | succ m =>
    rw [DataW.trod_step] at hf
    unfold DataW.trodStep at hf
    simp only [hT, Value.cells] at hf
    rw [if_pos (by rw [hcT]; simpa using hc), hcE] at hf
    obtain ⟨ys, hy, e1⟩ := Option.map_eq_some_iff.1 hf
    obtain ⟨hyl, hyg⟩ := mapM_some _ _ _ hy
    rw [List.length_range] at hyl
    have key : ∀ j, j < 48 → ∃ a, cs.toList[j]? = some (.int .i64 a) := fun j hj => by
      have h1 := hyg (j / 4) (j / 4) (ys[j / 4]'(by omega)) (List.getElem?_range (by omega)) (List.getElem?_eq_getElem _)
      obtain ⟨a, b, c, d, e2⟩ := cyclo_cells h1
      have h2 : (List.take 4 (List.drop (j / 4 * 4) cs.toList))[j % 4]? = [Value.int .i64 a, .int .i64 b, .int .i64 c, .int .i64 d][j % 4]? := by rw [e2]
      rw [List.getElem?_take_of_lt (by omega), List.getElem?_drop, show j / 4 * 4 + j % 4 = j by omega] at h2
      have h4 : j % 4 = 0 ∨ j % 4 = 1 ∨ j % 4 = 2 ∨ j % 4 = 3 := by omega
      rcases h4 with h | h | h | h <;> rw [h] at h2 <;> exact ⟨_, h2⟩
    let f : Value → Int := fun v => match v with | .int _ a => a | _ => 0
    refine ⟨cs.toList.map f, by simp [hc], ?_⟩
    congr 1
    apply Array.toList_inj.1
    unfold ia
    rw [List.toList_toArray, List.map_map]
    apply List.ext_getElem?
    intro j
    rw [List.getElem?_map]
    by_cases hj : j < 48
    · obtain ⟨a, ha⟩ := key j hj
      rw [ha]; rfl
    · rw [List.getElem?_eq_none (by simp [hc]; omega)]; rfl
end

section
open Go.ChangeShapes Go.WideShapes Go.ChangeAt Go.RowKit
set_option linter.unusedVariables false

set_option maxRecDepth 100000 in
theorem rec_lifted (os : Os) (started : os.Started) (H : Type) (enc : TypeId × Value → H) :
    ReturnsInHanded {} Tryz.checked os 3 .any (fun w args => (Rows.harmonicRecordsSpec.pre enc Tryz.prog Tryz.f3 [] false w args ∧ laidMetH Tryz.prog Rows.harmonicRecordsRow.laid w) ∧ sizedMet enc Tryz.prog Tryz.f3 (OpenSpec.ofChange Rows.harmonicRecordsSpec) false w args)
      (Rows.harmonicRecordsSpec.post enc Tryz.prog Tryz.f3 false true false false) := by
  refine returnsInHanded_of_change_and (C := Tryz.checked) (X := fun w _ => laidMetH Tryz.prog Rows.harmonicRecordsRow.laid w) (fun _ _ _ hh h => h.of_heap hh) own started (by kernel_rfl) Tryz.func3
    (ChangeSpec.witness_shaped (enc := enc) (C := Tryz.checked) (os := os) (X := fun w _ => laidMetH Tryz.prog Rows.harmonicRecordsRow.laid w) false (World.doorLaid Tryz.prog 400 os) #[.agg #[.int .i64 0, .int .i64 0, .int .i64 0, .int .i64 0, .int .i64 0, .int .i64 0, .int .i64 0, .int .i64 0, .int .i64 0, .int .i64 0, .int .i64 0, .int .i64 0, .int .i64 0, .int .i64 0, .int .i64 0, .int .i64 0, .int .i64 0, .int .i64 0, .int .i64 0, .int .i64 0, .int .i64 0, .int .i64 0, .int .i64 0, .int .i64 0, .int .i64 0, .int .i64 0, .int .i64 0, .int .i64 0, .int .i64 0, .int .i64 0, .int .i64 0, .int .i64 0, .int .i64 0, .int .i64 0, .int .i64 0, .int .i64 0, .int .i64 0, .int .i64 0, .int .i64 0, .int .i64 0, .int .i64 0, .int .i64 0, .int .i64 0, .int .i64 0, .int .i64 0, .int .i64 0, .int .i64 0, .int .i64 0], .int .i64 0, .slice none 0 0] 8 rfl (World.shaped_of_RefB (by kernel_rfl) (by kernel_rfl)) (by kernel_rfl) (by kernel_rfl) (by kernel_rfl) (door_met os _)) ?_
  intro W base args ds gs before hval0 hW _ _ hL _
  have hval : ∀ (j : Nat) t v, Tryz.f3.params[j]? = some t → args[j]? = some v → Value.okWide Tryz.prog W .any base t v := hval0
  have hW' := hW
  obtain ⟨p, q, hA0, hV, rfl, hfz, hnd⟩ := hW
  have hA : DataW.TrodAll enc Tryz.prog W 0 (fun _ => true) true Tryz.f3.params.toList args.toList ds p := hA0
  rw [Tryz.params3] at hA hval
  obtain ⟨v0, vs0, d0, ds0, p0, q0, hargs, rfl, rfl, h0, r0⟩ := trodAll_cons hA
  obtain ⟨v1, vs1, d1, ds1, p1, q1, rfl, rfl, rfl, h1, r1⟩ := trodAll_cons r0
  obtain ⟨v2, vs2, d2, ds2, p2, q2, rfl, rfl, rfl, h2, r2⟩ := trodAll_cons r1
  obtain ⟨rfl, rfl, rfl⟩ := trodAll_nil r2
  obtain rfl : args = #[v0, v1, v2] := by cases args; simp_all
  obtain ⟨rfl, rfl⟩ := trodVars_none hV
  obtain ⟨l0, n0, rfl⟩ := open_spec (hval 0 26 v0 rfl rfl) h0
  obtain ⟨x1, rfl, rfl, rfl, w1⟩ := open_int Tryz.underlying3 (hval 1 3 v1 rfl rfl) h1
  obtain ⟨l2, i2⟩ := open_samples (hval 2 27 v2 rfl rfl) h2
  clear hA0 hval0
  obtain ⟨hQ, hP⟩ := laid_facts hL
  refine (rec_law l0 x1 v2 l2 W n0 i2 hQ hP).mono fun e W' ⟨he, bel⟩ => ?_
  subst he
  exact ⟨_, rfl, _, _, _, [], _, [], hW', trodAll_mk1 (shut_bool Tryz.underlying4 _), (trodAll_cons_mk (Below.trod laidOut (by kernel_rfl) (of_decide_eq_true (by kernel_rfl)) h0 bel (trod_places h0)) (trodAll_cons_mk (shut_int Tryz.underlying3 w1) (trodAll_cons_mk (Below.trod laidOut (by kernel_rfl) (of_decide_eq_true (by kernel_rfl)) h2 bel (trod_places h2)) trodAll_mk0))), rfl, bel.frame _, fun h => by cases h⟩

set_option maxHeartbeats 8000000 in
theorem rec_holds : Rows.HarmonicRecordsSaid :=
  OpenClaim.holds_of_wide 3 Tryz.f3 rfl rfl rfl rfl rfl rfl rfl ⟨rfl, rfl, rfl, rfl, rfl⟩ rfl rfl rfl rfl rfl (by as_aux_lemma => kernel_rfl) Tryz.func3 (by as_aux_lemma => kernel_rfl)
    (of_decide_eq_true (by as_aux_lemma => kernel_rfl)) (by unfold Func.isWrapper; first | (rw [if_pos (by decide +kernel)]; kernel_rfl) | (rw [if_neg (by decide +kernel)]; exact ⟨rfl, rfl⟩))
    (fun os started H enc _ => rec_lifted os started H enc)

/-- the statement. -/
theorem rec_card : Rows.HarmonicRecordsCardSaid :=
  Claim7.holds_tied_plain_at .later [] [.data, .data, .data, .data] true (true, "bc24d379a1bea9971804603950d0f66eaffbc46fc92d782488faadb316c6503d") false
    rec_holds (fun _ h => by cases h) (by kernel_rfl) (fun _ h => by cases h) harmonicRecords_row_tie rfl ⟨rfl, rfl⟩ (by kernel_rfl) rfl
    (fun f fn hf hfn => by
      obtain rfl : f = 3 := Option.some.inj ((show Tryz.prog.funcNamed "bipole/bipolelaw04.HarmonicRecords" = some 3 by kernel_rfl).symm.trans hf) |>.symm
      obtain rfl : fn = Tryz.f3 := (Option.some.inj (Tryz.func3.symm.trans hfn)).symm
      exact ⟨by kernel_rfl, fun j t ht => by
        rw [Tryz.params3] at ht
        have hm := Array.mem_of_getElem? ht
        have hall : (#[26, 3, 27].all fun u => !Tryz.prog.wantsStandIn u) = true := by kernel_rfl
        exact (show Tryz.prog.wantsStandIn t = false by simpa using Array.all_eq_true'.1 hall t hm)⟩)
    (by kernel_rfl)

#print axioms rec_card
end

end Go.Proofs.YtfeajpkjjlddlaaGreatDoor

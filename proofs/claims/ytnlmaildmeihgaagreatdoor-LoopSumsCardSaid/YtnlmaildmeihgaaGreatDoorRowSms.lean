/- Proves the tied card of the law LoopSums: it returns true at every input and leaves its arguments as they were. Conditions: those of the given row and its card. -/
import Derived.Test.YtnlmaildmeihgaaGreatDoorLawSms
import Derived.Test.YtnlmaildmeihgaaGreatDoorArr
import Derived.Test.YtnlmaildmeihgaaGreatDoorRowBase
import Derived.Test.YtnlmaildmeihgaaGreatDoorCards
import Derived.Test.YtnlmaildmeihgaaGreatDoorTie
import Derived.SevenTiedAt
namespace Go.Proofs.YtnlmaildmeihgaaGreatDoor
open Go.ChangeShapes Go.WideShapes Go.ChangeAt Go.RowKit
set_option linter.unusedVariables false

theorem wfi8 {x : Int} (h : (Lit.int .i8 x).wf = true) : -128 ≤ x ∧ x ≤ 127 := by
  have e1 : IntKind.i8.min = -128 := by decide
  have e2 : IntKind.i8.max = 127 := by decide
  simpa [Lit.wf, e1, e2] using h

set_option maxRecDepth 100000 in
theorem sms_lifted (os : Os) (started : os.Started) (H : Type) (enc : TypeId × Value → H) :
    ReturnsInHanded {} Tryz.checked os 12 .any (fun w args => (Rows.loopSumsSpec.pre enc Tryz.prog Tryz.f12 [] false w args ∧ laidMetH Tryz.prog Rows.loopSumsRow.laid w) ∧ sizedMet enc Tryz.prog Tryz.f12 (OpenSpec.ofChange Rows.loopSumsSpec) false w args)
      (Rows.loopSumsSpec.post enc Tryz.prog Tryz.f12 false true false false) := by
  refine returnsInHanded_of_change_and (C := Tryz.checked) (X := fun w _ => laidMetH Tryz.prog Rows.loopSumsRow.laid w) (fun _ _ _ hh h => h.of_heap hh) own started (by kernel_rfl) Tryz.func12
    (ChangeSpec.witness_shaped (enc := enc) (C := Tryz.checked) (os := os) (X := fun w _ => laidMetH Tryz.prog Rows.loopSumsRow.laid w) false (World.doorLaid Tryz.prog 400 os) #[.agg #[.int .i8 0, .int .i8 0, .int .i8 0], .agg #[.int .i8 0, .int .i8 0, .int .i8 0], .agg #[.int .i8 0, .int .i8 0]] 8 rfl (World.shaped_of_RefB (by kernel_rfl) (by kernel_rfl)) (by kernel_rfl) (by kernel_rfl) (by kernel_rfl) (door_met os _)) ?_
  intro W base args ds gs before hval0 hW _ _ hL _
  have hval : ∀ (j : Nat) t v, Tryz.f12.params[j]? = some t → args[j]? = some v → Value.okWide Tryz.prog W .any base t v := hval0
  have hW' := hW
  obtain ⟨p, q, hA0, hV, rfl, hfz, hnd⟩ := hW
  have hA : DataW.TrodAll enc Tryz.prog W 0 (fun _ => true) true Tryz.f12.params.toList args.toList ds p := hA0
  rw [Tryz.params12] at hA hval
  obtain ⟨v0, vs0, d0, ds0, p0, q0, hargs, rfl, rfl, h0, r0⟩ := trodAll_cons hA
  obtain ⟨v1, vs1, d1, ds1, p1, q1, rfl, rfl, rfl, h1, r1⟩ := trodAll_cons r0
  obtain ⟨v2, vs2, d2, ds2, p2, q2, rfl, rfl, rfl, h2, r2⟩ := trodAll_cons r1
  obtain ⟨rfl, rfl, rfl⟩ := trodAll_nil r2
  obtain rfl : args = #[v0, v1, v2] := by cases args; simp_all
  obtain ⟨rfl, rfl⟩ := trodVars_none hV
  obtain ⟨a0, b0, c0, rfl, rfl, wa0, wb0, wc0⟩ := open_arr3 Tryz.underlying111 Tryz.underlying101 (by kernel_rfl) (by kernel_rfl) (hval 0 111 v0 rfl rfl) h0
  obtain ⟨a1, b1, c1, rfl, rfl, wa1, wb1, wc1⟩ := open_arr3 Tryz.underlying111 Tryz.underlying101 (by kernel_rfl) (by kernel_rfl) (hval 1 111 v1 rfl rfl) h1
  obtain ⟨a2, b2, rfl, rfl, wa2, wb2⟩ := open_arr2 Tryz.underlying112 Tryz.underlying101 (by kernel_rfl) (by kernel_rfl) (hval 2 112 v2 rfl rfl) h2
  clear hA0 hval0
  obtain ⟨hQ, hP⟩ := laid_facts hL
  refine (sms_law a0 b0 c0 a1 b1 c1 a2 b2 W hQ hP (wfi8 wa0) (wfi8 wb0) (wfi8 wc0) (wfi8 wa1) (wfi8 wb1) (wfi8 wc1) (wfi8 wa2) (wfi8 wb2)).mono fun e W' ⟨he, bel⟩ => ?_
  subst he
  exact ⟨_, rfl, _, _, _, [], _, [], hW', trodAll_mk1 (shut_bool Tryz.underlying4 _), (trodAll_cons_mk (Below.trod laidOut (by kernel_rfl) (of_decide_eq_true (by kernel_rfl)) h0 bel (trod_places h0)) (trodAll_cons_mk (Below.trod laidOut (by kernel_rfl) (of_decide_eq_true (by kernel_rfl)) h1 bel (trod_places h1)) (trodAll_cons_mk (Below.trod laidOut (by kernel_rfl) (of_decide_eq_true (by kernel_rfl)) h2 bel (trod_places h2)) trodAll_mk0))), rfl, bel.frame _, fun h => by cases h⟩

set_option maxHeartbeats 8000000 in
theorem sms_holds : Rows.LoopSumsSaid :=
  OpenClaim.holds_of_wide 12 Tryz.f12 rfl rfl rfl rfl rfl rfl rfl ⟨rfl, rfl, rfl, rfl, rfl⟩ rfl rfl rfl rfl rfl (by as_aux_lemma => kernel_rfl) Tryz.func12 (by as_aux_lemma => kernel_rfl)
    (of_decide_eq_true (by as_aux_lemma => kernel_rfl)) (by unfold Func.isWrapper; first | (rw [if_pos (by decide +kernel)]; kernel_rfl) | (rw [if_neg (by decide +kernel)]; exact ⟨rfl, rfl⟩))
    (fun os started H enc _ => sms_lifted os started H enc)

/-- the statement. -/
theorem sms_card : Rows.LoopSumsCardSaid :=
  Claim7.holds_tied_plain_at .later [] [.data, .data, .data, .data] true (true, "2d7be2c99e0785c11df1edcb99264260544e5a26fe5cf6eab9ef98df0922c00a") true
    sms_holds (fun _ h => by cases h) (by kernel_rfl) (fun _ h => by cases h) loopSums_row_tie rfl ⟨rfl, rfl⟩ (by kernel_rfl) rfl
    (fun f fn hf hfn => by
      obtain rfl : f = 12 := Option.some.inj ((show Tryz.prog.funcNamed "bipole/bipolelaw03.LoopSums" = some 12 by kernel_rfl).symm.trans hf) |>.symm
      obtain rfl : fn = Tryz.f12 := (Option.some.inj (Tryz.func12.symm.trans hfn)).symm
      exact ⟨by kernel_rfl, fun j t ht => by
        rw [Tryz.params12] at ht
        have hm := Array.mem_of_getElem? ht
        have hall : (#[111, 111, 112].all fun u => !Tryz.prog.wantsStandIn u) = true := by kernel_rfl
        exact (show Tryz.prog.wantsStandIn t = false by simpa using Array.all_eq_true'.1 hall t hm)⟩)
    (by kernel_rfl)

#print axioms sms_card

end Go.Proofs.YtnlmaildmeihgaaGreatDoor

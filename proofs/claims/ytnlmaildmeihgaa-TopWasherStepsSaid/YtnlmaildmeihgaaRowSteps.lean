/- Proves that the law TopWasherSteps returns true at every input and leaves its arguments as they were. Conditions: those of the given row. -/
import Derived.Test.YtnlmaildmeihgaaLawSteps
import Derived.Test.YtnlmaildmeihgaaRows
import Derived.WalkKit
import Derived.ProofKit
import Derived.OpenShut
import Derived.ChangeOld
import Derived.Below
namespace Go.Proofs.Ytnlmaildmeihgaa
open Go.ChangeShapes Go.WideShapes Go.ChangeAt Go.RowKit
set_option linter.unusedVariables false

theorem own : ownKnob Try.prog.godebug = none := by kernel_rfl
theorem laidOut : laidOutB Try.prog = true := by kernel_rfl
theorem cells23 : Try.prog.cellsOf 23 = 2 := by kernel_rfl
theorem cells22 : Try.prog.cellsOf 22 = 1 := by kernel_rfl

/-- an array of two int8 that came in: two numbers of the kind. -/
theorem open_pair {H : Type} {enc : TypeId × Value → H} {W : World} {b0 : Nat} {v : Value} {d : DataW H} {p : List MemPlace}
    (hval : Value.okWide Try.prog W .any b0 23 v) (hd : DataW.Trod enc Try.prog W 0 (fun _ => true) true 23 v d p) :
    ∃ a b : Int, v = .agg #[.int .i8 a, .int .i8 b] ∧ p = [] ∧ (Lit.int .i8 a).wf = true ∧ (Lit.int .i8 b).wf = true := by
  simp only [Value.okWide, Try.underlying23] at hval
  obtain ⟨cs, rfl, hc, _⟩ := hval
  rw [cells23] at hc
  obtain ⟨fuel, hf⟩ := hd
  cases fuel with
  | zero => simp [DataW.trod] at hf
  | succ m =>
    rw [DataW.trod_step] at hf
    unfold DataW.trodStep at hf
    simp only [Try.underlying23, Value.cells] at hf
    obtain ⟨l⟩ := cs
    match l, hc with
    | [x, y], _ =>
      rw [if_pos (by rw [cells23]; rfl), cells22] at hf
      simp only [Option.map_eq_some_iff] at hf
      obtain ⟨ys, hy, e1⟩ := hf
      rw [show List.range 2 = [0, 1] from rfl, List.mapM_cons] at hy
      simp only [List.mapM_cons, List.mapM_nil, bind, Option.bind_eq_some_iff, pure, Option.some.injEq] at hy
      obtain ⟨z0, hz0, zs, ⟨z1, hz1, _, rfl, rfl⟩, rfl⟩ := hy
      obtain ⟨a, ea, rfl, wa⟩ := DataW.trod_int Try.underlying22 hz0
      obtain ⟨b, eb, rfl, wb⟩ := DataW.trod_int Try.underlying22 hz1
      simp at ea eb
      simp only [Prod.mk.injEq] at e1
      obtain ⟨rfl, rfl⟩ := e1
      exact ⟨a, b, by rw [ea, eb], by simp, wa, wb⟩

set_option maxRecDepth 100000 in
theorem steps_lifted (os : Os) (started : os.Started) (H : Type) (enc : TypeId × Value → H) :
    ReturnsInHanded {} Try.checked os 3 .any (Rows.topWasherStepsSpec.pre6 enc Try.prog Try.f3 Rows.topWasherStepsRow.domain false) (Rows.topWasherStepsSpec.post enc Try.prog Try.f3 false true false false) := by
  refine returnsInHanded_of_change (C := Try.checked) own started (by kernel_rfl) Try.func3
    (ChangeSpec.witness6 (enc := enc) (C := Try.checked) false ⟨#[], #[.agg #[.int .i8 0, .int .i8 0], .agg #[.int .i8 0, .int .i8 0], .int .i8 0], []⟩ 8 (by kernel_rfl) (by kernel_rfl) (by kernel_rfl) (by kernel_rfl)) ?_
  intro W base args ds gs before hval0 hW hcnd _
  have hval : ∀ (j : Nat) t v, Try.f3.params[j]? = some t → args[j]? = some v → Value.okWide Try.prog W .any base t v := hval0
  have hW' := hW
  obtain ⟨p, q, hA0, hV, rfl, hfz, hnd⟩ := hW
  have hA : DataW.TrodAll enc Try.prog W 0 (fun _ => true) true Try.f3.params.toList args.toList ds p := hA0
  rw [Try.params3] at hA hval
  obtain ⟨v0, vs0, d0, ds0, p0, q0, hargs, rfl, rfl, h0, r0⟩ := trodAll_cons hA
  obtain ⟨v1, vs1, d1, ds1, p1, q1, rfl, rfl, rfl, h1, r1⟩ := trodAll_cons r0
  obtain ⟨v2, vs2, d2, ds2, p2, q2, rfl, rfl, rfl, h2, r2⟩ := trodAll_cons r1
  obtain ⟨rfl, rfl, rfl⟩ := trodAll_nil r2
  obtain rfl : args = #[v0, v1, v2] := by cases args; simp_all
  obtain ⟨rfl, rfl⟩ := trodVars_none hV
  obtain ⟨a0, a1, rfl, rfl, _, _⟩ := open_pair (hval 0 23 v0 rfl rfl) h0
  obtain ⟨b0, b1, rfl, rfl, _, _⟩ := open_pair (hval 1 23 v1 rfl rfl) h1
  obtain ⟨vv, rfl, rfl, rfl, wv⟩ := open_int Try.underlying22 (hval 2 22 v2 rfl rfl) h2
  clear hA0 hval0
  have e1 : IntKind.i8.min = -128 := by decide
  have e2 : IntKind.i8.max = 127 := by decide
  have hvv : -128 ≤ vv ∧ vv ≤ 127 := by simpa [Lit.wf, e1, e2] using wv
  refine (steps_law a0 a1 b0 b1 vv hvv W).mono fun e W' ⟨he, bel⟩ => ?_
  subst he
  exact ⟨_, rfl, _, _, _, [], _, [], hW', trodAll_mk1 (shut_bool Try.underlying4 _), (trodAll_cons_mk (Below.trod laidOut (by kernel_rfl) (of_decide_eq_true (by kernel_rfl)) h0 bel (by simp)) (trodAll_cons_mk (Below.trod laidOut (by kernel_rfl) (of_decide_eq_true (by kernel_rfl)) h1 bel (by simp)) (trodAll_cons_mk (shut_int Try.underlying22 wv) trodAll_mk0))), rfl, bel.frame _, fun h => by cases h⟩

/-- the statement. -/
theorem steps_holds : Rows.TopWasherStepsSaid :=
  OpenClaim.holds_of_wide 3 Try.f3 rfl rfl rfl rfl rfl rfl rfl ⟨rfl, rfl, rfl, rfl, rfl⟩ rfl rfl rfl rfl rfl (by kernel_rfl) Try.func3 (by kernel_rfl)
    (of_decide_eq_true (by kernel_rfl)) (by unfold Func.isWrapper; first | (rw [if_pos (by decide +kernel)]; kernel_rfl) | (rw [if_neg (by decide +kernel)]; exact ⟨rfl, rfl⟩))
    (fun os started H enc _ => steps_lifted os started H enc)

#print axioms steps_holds

end Go.Proofs.Ytnlmaildmeihgaa

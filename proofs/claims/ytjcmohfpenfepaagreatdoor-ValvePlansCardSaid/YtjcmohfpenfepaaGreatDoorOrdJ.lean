/- A region that draws its order: calls that may come up in any order, whose results are told by what they hold: taken together, once. -/
import Derived.Test.YtjcmohfpenfepaaGreatDoorOrdE
namespace Go.Proofs.YtjcmohfpenfepaaGreatDoor
set_option linter.unusedSimpArgs false
set_option linter.unusedVariables false
open Go Go.RowKit
section
variable {P : Program} {ops : Array Oper} {Q : Exit → Act → World → Prop} {md : Region.Mode} {last : Nat}
/-- in every later world the call lays new blocks alone and tells R of its result. -/
def YieldsR (P : Program) (ops : Array Oper) (R : Value → World → Prop) (o : Oper) (a : Act) (w : World) : Prop :=
 Region.wanted o (yielded ops a.tmps) = true ∧ ∃ f args, ∀ w', Ext w w' → (execOp a.eval o).run P w' = .ok (.enter f args) w' ∧ Calls P f args w' (fun e w'' => ∃ v, e = .returned v ∧ R v w'' ∧ Ext w' w'')
theorem YieldsR.later {R : Value → World → Prop} {o : Oper} {a : Act} {w w' : World} (h : YieldsR P ops R o a w) (he : Ext w w') : YieldsR P ops R o a w' := by
 obtain ⟨h1, f, args, h2⟩ := h
 exact ⟨h1, f, args, fun w'' h'' => h2 w'' (he.trans h'')⟩
theorem YieldsR.put {R : Value → World → Prop} {o oj : Oper} {a : Act} {w : World} (h : YieldsR P ops R o a w) (hap : o.apart ops oj = true) (hs : ∀ cs b, o.op ≠ .select cs b) (u : Value) : YieldsR P ops R o (a.put oj.dst u) w := by
 obtain ⟨h1, h2, h3⟩ := Oper.apart_spec hap
 unfold YieldsR at *
 rw [execOp_put o hs a oj.dst u h3, wanted_put o a oj.dst u h3]
 exact h
theorem YieldsR.wpOp {R : Value → World → Prop} {i : Nat} {o : Oper} {a : Act} {w : World} (hi : ops[i]? = some o) (hy : YieldsR P ops R o a w)
 {K : Act → World → Prop} {w' : World} (he : Ext w w') (h : ∀ v w'', R v w'' → Ext w' w'' → K (a.put o.dst v) w'') : wpOp P ops Q i K a w' := by
 unfold Go.wpOp
 simp only [hi]
 obtain ⟨hw, f, args, hv⟩ := hy
 obtain ⟨hr, hc⟩ := hv w' he
 simp only [hw, if_true, Oper.wp, hr, Oper.upon]
 refine .inl (hc.mono ?_)
 rintro e w'' ⟨v, rfl, hR, hx⟩
 exact h v w'' hR hx
theorem yieldsR {R : Value → World → Prop} {o : Oper} {a : Act} {w : World} {f : FuncId} {args : Array Value} (hc : ∀ w', Ext w w' → Calls P f args w' (fun e w'' => ∃ v, e = .returned v ∧ R v w'' ∧ Ext w' w''))
 (hw : Region.wanted o (yielded ops a.tmps) = true := by rfl) (hrun : ∀ w', Ext w w' → (execOp a.eval o).run P w' = .ok (.enter f args) w' := by (intro w hE; (try dsimp only); go_simp)) : YieldsR P ops R o a w :=
 ⟨hw, f, args, fun w' he => ⟨hrun w' he, hc w' he⟩⟩
theorem wpAnyE_call1 {i : Nat} {oi : Oper} {R : Value → World → Prop} {fuel : Nat} {listed : Array Bool} {a : Act} {w : World} (hr : Region.ready md ops listed = [i]) (hi : ops[i]? = some oi)
 (hy : YieldsR P ops R oi a w) (h : ∀ v w1, Ext w w1 → R v w1 → wpAnyE P md ops Q last fuel (listed.setIfInBounds i true) (a.put oi.dst v) w1) : wpAnyE P md ops Q last (fuel + 1) listed a w := fun w' he => by
 refine ⟨fun h0 => (by rw [hr] at h0; cases h0), fun j hj => ?_⟩
 rw [hr] at hj
 obtain rfl := List.mem_singleton.1 hj
 exact hy.wpOp hi he (fun v w'' hR hx => ⟨fun _ => hx, h v w'' (he.trans hx) hR⟩)
end
end Go.Proofs.YtjcmohfpenfepaaGreatDoor

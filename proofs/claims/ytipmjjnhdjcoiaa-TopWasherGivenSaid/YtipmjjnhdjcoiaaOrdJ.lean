/- A region that draws its order: calls that may come up in any order, whose results are told by what they hold: taken together, once. -/
import Derived.Test.YtipmjjnhdjcoiaaOrdE
namespace Go.Proofs.Ytipmjjnhdjcoiaa
set_option linter.unusedSimpArgs false
set_option linter.unusedVariables false
open Go Go.RowKit

section
variable {P : Program} {ops : Array Oper} {Q : Exit → Act → World → Prop} {md : Region.Mode} {last : Nat}

/-- in every later world the call lays new blocks alone and tells R of its result. -/
def YieldsR (P : Program) (ops : Array Oper) (R : Value → World → Prop) (o : Oper) (a : Act) (w : World) : Prop :=
  Region.wanted o (yielded ops a.tmps) = true ∧ ∃ f args, ∀ w', Ext w w' → (execOp a.eval o).run P w' = .ok (.enter f args) w' ∧ Calls P f args w' (fun e w'' => ∃ v, e = .returned v ∧ R v w'' ∧ Ext w' w'')

theorem YieldsR.later {R : Value → World → Prop} {o : Oper} {a : Act} {w w' : World} (h : YieldsR P ops R o a w) (he : Ext w w') : YieldsR P ops R o a w' := by
  obtain ⟨h1, f, args, h2⟩ := h
  exact ⟨h1, f, args, fun w'' h'' => h2 w'' (he.trans h'')⟩
theorem YieldsR.put {R : Value → World → Prop} {o oj : Oper} {a : Act} {w : World} (h : YieldsR P ops R o a w) (hap : o.apart ops oj = true) (hs : ∀ cs b, o.op ≠ .select cs b) (u : Value) : YieldsR P ops R o (a.put oj.dst u) w := by
  obtain ⟨h1, h2, h3⟩ := Oper.apart_spec hap
  unfold YieldsR at *
  rw [execOp_put o hs a oj.dst u h3, wanted_put o a oj.dst u h3]
  exact h
theorem YieldsR.wpOp {R : Value → World → Prop} {i : Nat} {o : Oper} {a : Act} {w : World} (hi : ops[i]? = some o) (hy : YieldsR P ops R o a w)
    {K : Act → World → Prop} {w' : World} (he : Ext w w') (h : ∀ v w'', R v w'' → Ext w' w'' → K (a.put o.dst v) w'') : wpOp P ops Q i K a w' := by
  unfold Go.wpOp
  simp only [hi]
  obtain ⟨hw, f, args, hv⟩ := hy
  obtain ⟨hr, hc⟩ := hv w' he
  simp only [hw, if_true, Oper.wp, hr, Oper.upon]
  refine .inl (hc.mono ?_)
  rintro e w'' ⟨v, rfl, hR, hx⟩
  exact h v w'' hR hx
theorem yieldsR {R : Value → World → Prop} {o : Oper} {a : Act} {w : World} {f : FuncId} {args : Array Value} (hc : ∀ w', Ext w w' → Calls P f args w' (fun e w'' => ∃ v, e = .returned v ∧ R v w'' ∧ Ext w' w''))
    (hw : Region.wanted o (yielded ops a.tmps) = true := by rfl) (hrun : ∀ w', Ext w w' → (execOp a.eval o).run P w' = .ok (.enter f args) w' := by (intro w hE; (try dsimp only); go_simp)) : YieldsR P ops R o a w :=
  ⟨hw, f, args, fun w' he => ⟨hrun w' he, hc w' he⟩⟩
/-- what is told of a result goes on holding. -/
def Stays (R : Value → World → Prop) : Prop := ∀ v w w', R v w → Ext w w' → R v w'

theorem wpAnyE_call1 {i : Nat} {oi : Oper} {R : Value → World → Prop} {fuel : Nat} {listed : Array Bool} {a : Act} {w : World} (hr : Region.ready md ops listed = [i]) (hi : ops[i]? = some oi)
    (hy : YieldsR P ops R oi a w) (h : ∀ v w1, Ext w w1 → R v w1 → wpAnyE P md ops Q last fuel (listed.setIfInBounds i true) (a.put oi.dst v) w1) : wpAnyE P md ops Q last (fuel + 1) listed a w := fun w' he => by
  refine ⟨fun h0 => (by rw [hr] at h0; cases h0), fun j hj => ?_⟩
  rw [hr] at hj
  obtain rfl := List.mem_singleton.1 hj
  exact hy.wpOp hi he (fun v w'' hR hx => ⟨fun _ => hx, h v w'' (he.trans hx) hR⟩)

theorem wpAnyE_call2 {i j : Nat} {oi oj : Oper} {Ri Rj : Value → World → Prop} {fuel : Nat} {listed : Array Bool} {a : Act} {w : World} (hi : ops[i]? = some oi) (hj : ops[j]? = some oj)
    (hyi : YieldsR P ops Ri oi a w) (hyj : YieldsR P ops Rj oj a w) (si : Stays Ri) (sj : Stays Rj)
    (h : ∀ u v w1, Ext w w1 → Ri u w1 → Rj v w1 → wpAnyE P md ops Q last fuel ((listed.setIfInBounds i true).setIfInBounds j true) ((a.put oi.dst u).put oj.dst v) w1)
    (hr : Region.ready md ops listed = [i, j]) (h1 : Region.ready md ops (listed.setIfInBounds i true) = [j]) (h2 : Region.ready md ops (listed.setIfInBounds j true) = [i])
    (hij : i ≠ j) (hs : Region.noSelect ops = true) (aij : oi.apart ops oj = true) (aji : oj.apart ops oi = true) : wpAnyE P md ops Q last (fuel + 2) listed a w := fun w' he => by
  refine ⟨fun h0 => (by rw [hr] at h0; cases h0), fun k hk => ?_⟩
  rw [hr] at hk
  have hsel := Region.noSelect_spec hs
  have hd := (Oper.apart_spec aij).2.1
  rcases List.mem_cons.1 hk with rfl | hk
  · refine hyi.wpOp hi he (fun u w'' hR hx => ⟨fun _ => hx, wpAnyE_call1 h1 hj ((hyj.later (he.trans hx)).put aji (fun cs b => hsel _ _ cs b hj) u) (fun v w1 hx1 hRv => h u v w1 ((he.trans hx).trans hx1) (si _ _ _ hR hx1) hRv)⟩)
  · obtain rfl := List.mem_singleton.1 hk
    refine hyj.wpOp hj he (fun v w'' hR hx => ⟨fun _ => hx, wpAnyE_call1 h2 hi ((hyi.later (he.trans hx)).put aij (fun cs b => hsel _ _ cs b hi) v) (fun u w1 hx1 hRu => ?_)⟩)
    have := h u v w1 ((he.trans hx).trans hx1) hRu (sj _ _ _ hR hx1)
    rw [Array.setIfInBounds_comm _ _ hij, Act.put_comm a u v hd] at this
    exact this

theorem wpAnyE_call3 {i j k : Nat} {oi oj ok : Oper} {Ri Rj Rk : Value → World → Prop} {fuel : Nat} {listed : Array Bool} {a : Act} {w : World} (hi : ops[i]? = some oi) (hj : ops[j]? = some oj) (hk : ops[k]? = some ok)
    (hyi : YieldsR P ops Ri oi a w) (hyj : YieldsR P ops Rj oj a w) (hyk : YieldsR P ops Rk ok a w) (si : Stays Ri) (sj : Stays Rj) (sk : Stays Rk)
    (h : ∀ u v x w1, Ext w w1 → Ri u w1 → Rj v w1 → Rk x w1 → wpAnyE P md ops Q last fuel (((listed.setIfInBounds i true).setIfInBounds j true).setIfInBounds k true) (((a.put oi.dst u).put oj.dst v).put ok.dst x) w1)
    (hr : Region.ready md ops listed = [i, j, k])
    (r1 : Region.ready md ops (listed.setIfInBounds i true) = [j, k]) (r2 : Region.ready md ops (listed.setIfInBounds j true) = [i, k]) (r3 : Region.ready md ops (listed.setIfInBounds k true) = [i, j])
    (r12 : Region.ready md ops ((listed.setIfInBounds i true).setIfInBounds j true) = [k]) (r13 : Region.ready md ops ((listed.setIfInBounds i true).setIfInBounds k true) = [j]) (r23 : Region.ready md ops ((listed.setIfInBounds j true).setIfInBounds k true) = [i])
    (hij : i ≠ j) (hik : i ≠ k) (hjk : j ≠ k) (hs : Region.noSelect ops = true)
    (aij : oi.apart ops oj = true) (aji : oj.apart ops oi = true) (aik : oi.apart ops ok = true) (aki : ok.apart ops oi = true) (ajk : oj.apart ops ok = true) (akj : ok.apart ops oj = true) : wpAnyE P md ops Q last (fuel + 3) listed a w := fun w' he => by
  refine ⟨fun h0 => (by rw [hr] at h0; cases h0), fun m hm => ?_⟩
  rw [hr] at hm
  have hsel := Region.noSelect_spec hs
  have dij := (Oper.apart_spec aij).2.1
  have dik := (Oper.apart_spec aik).2.1
  have djk := (Oper.apart_spec ajk).2.1
  have nsi := fun cs b => hsel i oi cs b hi
  have nsj := fun cs b => hsel j oj cs b hj
  have nsk := fun cs b => hsel k ok cs b hk
  rcases List.mem_cons.1 hm with rfl | hm
  · refine hyi.wpOp hi he (fun u w'' hR hx => ⟨fun _ => hx, ?_⟩)
    refine wpAnyE_call2 hj hk ((hyj.later (he.trans hx)).put aji nsj u) ((hyk.later (he.trans hx)).put aki nsk u) sj sk (fun v x w1 hx1 hv hz => h u v x w1 ((he.trans hx).trans hx1) (si _ _ _ hR hx1) hv hz) r1 r12 r13 hjk hs ajk akj
  · rcases List.mem_cons.1 hm with rfl | hm
    · refine hyj.wpOp hj he (fun v w'' hR hx => ⟨fun _ => hx, ?_⟩)
      refine wpAnyE_call2 hi hk ((hyi.later (he.trans hx)).put aij nsi v) ((hyk.later (he.trans hx)).put akj nsk v) si sk (fun u x w1 hx1 hu hz => ?_) r2 (by rw [Array.setIfInBounds_comm _ _ (Ne.symm hij)]; exact r12) r23 hik hs aik aki
      have := h u v x w1 ((he.trans hx).trans hx1) hu (sj _ _ _ hR hx1) hz
      rw [Array.setIfInBounds_comm _ _ hij, Act.put_comm a u v dij] at this
      exact this
    · obtain rfl := List.mem_singleton.1 hm
      refine hyk.wpOp hk he (fun x w'' hR hx => ⟨fun _ => hx, ?_⟩)
      refine wpAnyE_call2 hi hj ((hyi.later (he.trans hx)).put aik nsi x) ((hyj.later (he.trans hx)).put ajk nsj x) si sj (fun u v w1 hx1 hu hv => ?_) r3 (by rw [Array.setIfInBounds_comm _ _ (Ne.symm hik)]; exact r13) (by rw [Array.setIfInBounds_comm _ _ (Ne.symm hjk)]; exact r23) hij hs aij aji
      have := h u v x w1 ((he.trans hx).trans hx1) hu hv (sk _ _ _ hR hx1)
      rw [Array.setIfInBounds_comm (xs := listed.setIfInBounds i true) _ _ hjk, Array.setIfInBounds_comm (xs := listed) _ _ hik, Act.put_comm (a.put oi.dst u) v x djk, Act.put_comm a u x dik] at this
      exact this

theorem wpAnyE_call4 {i j k m : Nat} {oi oj ok om : Oper} {Ri Rj Rk Rm : Value → World → Prop} {fuel : Nat} {listed : Array Bool} {a : Act} {w : World} (hi : ops[i]? = some oi) (hj : ops[j]? = some oj) (hk : ops[k]? = some ok) (hm : ops[m]? = some om)
    (hyi : YieldsR P ops Ri oi a w) (hyj : YieldsR P ops Rj oj a w) (hyk : YieldsR P ops Rk ok a w) (hym : YieldsR P ops Rm om a w) (si : Stays Ri) (sj : Stays Rj) (sk : Stays Rk) (sm : Stays Rm)
    (h : ∀ u v x y w1, Ext w w1 → Ri u w1 → Rj v w1 → Rk x w1 → Rm y w1 → wpAnyE P md ops Q last fuel ((((listed.setIfInBounds i true).setIfInBounds j true).setIfInBounds k true).setIfInBounds m true) ((((a.put oi.dst u).put oj.dst v).put ok.dst x).put om.dst y) w1)
    (hr : Region.ready md ops listed = [i, j, k, m])
    (r1 : Region.ready md ops (listed.setIfInBounds i true) = [j, k, m]) (r2 : Region.ready md ops (listed.setIfInBounds j true) = [i, k, m]) (r3 : Region.ready md ops (listed.setIfInBounds k true) = [i, j, m]) (r4 : Region.ready md ops (listed.setIfInBounds m true) = [i, j, k])
    (r12 : Region.ready md ops ((listed.setIfInBounds i true).setIfInBounds j true) = [k, m]) (r13 : Region.ready md ops ((listed.setIfInBounds i true).setIfInBounds k true) = [j, m]) (r14 : Region.ready md ops ((listed.setIfInBounds i true).setIfInBounds m true) = [j, k])
    (r23 : Region.ready md ops ((listed.setIfInBounds j true).setIfInBounds k true) = [i, m]) (r24 : Region.ready md ops ((listed.setIfInBounds j true).setIfInBounds m true) = [i, k]) (r34 : Region.ready md ops ((listed.setIfInBounds k true).setIfInBounds m true) = [i, j])
    (r123 : Region.ready md ops (((listed.setIfInBounds i true).setIfInBounds j true).setIfInBounds k true) = [m]) (r124 : Region.ready md ops (((listed.setIfInBounds i true).setIfInBounds j true).setIfInBounds m true) = [k])
    (r134 : Region.ready md ops (((listed.setIfInBounds i true).setIfInBounds k true).setIfInBounds m true) = [j]) (r234 : Region.ready md ops (((listed.setIfInBounds j true).setIfInBounds k true).setIfInBounds m true) = [i])
    (hij : i ≠ j) (hik : i ≠ k) (him : i ≠ m) (hjk : j ≠ k) (hjm : j ≠ m) (hkm : k ≠ m) (hs : Region.noSelect ops = true)
    (aij : oi.apart ops oj = true) (aji : oj.apart ops oi = true) (aik : oi.apart ops ok = true) (aki : ok.apart ops oi = true) (aim : oi.apart ops om = true) (ami : om.apart ops oi = true)
    (ajk : oj.apart ops ok = true) (akj : ok.apart ops oj = true) (ajm : oj.apart ops om = true) (amj : om.apart ops oj = true) (akm : ok.apart ops om = true) (amk : om.apart ops ok = true) : wpAnyE P md ops Q last (fuel + 4) listed a w := fun w' he => by
  refine ⟨fun h0 => (by rw [hr] at h0; cases h0), fun n hn => ?_⟩
  rw [hr] at hn
  have hsel := Region.noSelect_spec hs
  have dij := (Oper.apart_spec aij).2.1
  have dik := (Oper.apart_spec aik).2.1
  have dim := (Oper.apart_spec aim).2.1
  have djk := (Oper.apart_spec ajk).2.1
  have djm := (Oper.apart_spec ajm).2.1
  have dkm := (Oper.apart_spec akm).2.1
  have nsi := fun cs b => hsel i oi cs b hi
  have nsj := fun cs b => hsel j oj cs b hj
  have nsk := fun cs b => hsel k ok cs b hk
  have nsm := fun cs b => hsel m om cs b hm
  have cm := fun (l : Array Bool) {p q : Nat} (h : p ≠ q) => Array.setIfInBounds_comm (xs := l) true true h
  rcases List.mem_cons.1 hn with rfl | hn
  · refine hyi.wpOp hi he (fun u w'' hR hx => ⟨fun _ => hx, ?_⟩)
    exact wpAnyE_call3 hj hk hm ((hyj.later (he.trans hx)).put aji nsj u) ((hyk.later (he.trans hx)).put aki nsk u) ((hym.later (he.trans hx)).put ami nsm u) sj sk sm (fun v x y w1 hx1 hv hz hw => h u v x y w1 ((he.trans hx).trans hx1) (si _ _ _ hR hx1) hv hz hw)
      r1 r12 r13 r14 r123 r124 r134 hjk hjm hkm hs ajk akj ajm amj akm amk
  · rcases List.mem_cons.1 hn with rfl | hn
    · refine hyj.wpOp hj he (fun v w'' hR hx => ⟨fun _ => hx, ?_⟩)
      refine wpAnyE_call3 hi hk hm ((hyi.later (he.trans hx)).put aij nsi v) ((hyk.later (he.trans hx)).put akj nsk v) ((hym.later (he.trans hx)).put amj nsm v) si sk sm (fun u x y w1 hx1 hu hz hw => ?_)
        r2 (by rw [cm listed (Ne.symm hij)]; exact r12) r23 r24 (by rw [cm listed (Ne.symm hij)]; exact r123) (by rw [cm listed (Ne.symm hij)]; exact r124) r234 hik him hkm hs aik aki aim ami akm amk
      have := h u v x y w1 ((he.trans hx).trans hx1) hu (sj _ _ _ hR hx1) hz hw
      rw [cm listed hij, Act.put_comm a u v dij] at this
      exact this
    · rcases List.mem_cons.1 hn with rfl | hn
      · refine hyk.wpOp hk he (fun x w'' hR hx => ⟨fun _ => hx, ?_⟩)
        refine wpAnyE_call3 hi hj hm ((hyi.later (he.trans hx)).put aik nsi x) ((hyj.later (he.trans hx)).put ajk nsj x) ((hym.later (he.trans hx)).put amk nsm x) si sj sm (fun u v y w1 hx1 hu hz hw => ?_)
          r3 (by rw [cm listed (Ne.symm hik)]; exact r13) (by rw [cm listed (Ne.symm hjk)]; exact r23) r34 (by rw [cm listed (Ne.symm hik), cm _ (Ne.symm hjk)]; exact r123) (by rw [cm listed (Ne.symm hik)]; exact r134) (by rw [cm listed (Ne.symm hjk)]; exact r234) hij him hjm hs aij aji aim ami ajm amj
        have := h u v x y w1 ((he.trans hx).trans hx1) hu hz (sk _ _ _ hR hx1) hw
        rw [cm (listed.setIfInBounds i true) hjk, cm listed hik, Act.put_comm (a.put oi.dst u) v x djk, Act.put_comm a u x dik] at this
        exact this
      · obtain rfl := List.mem_singleton.1 hn
        refine hym.wpOp hm he (fun y w'' hR hx => ⟨fun _ => hx, ?_⟩)
        refine wpAnyE_call3 hi hj hk ((hyi.later (he.trans hx)).put aim nsi y) ((hyj.later (he.trans hx)).put ajm nsj y) ((hyk.later (he.trans hx)).put akm nsk y) si sj sk (fun u v x w1 hx1 hu hz hw => ?_)
          r4 (by rw [cm listed (Ne.symm him)]; exact r14) (by rw [cm listed (Ne.symm hjm)]; exact r24) (by rw [cm listed (Ne.symm hkm)]; exact r34) (by rw [cm listed (Ne.symm him), cm _ (Ne.symm hjm)]; exact r124) (by rw [cm listed (Ne.symm him), cm _ (Ne.symm hkm)]; exact r134) (by rw [cm listed (Ne.symm hjm), cm _ (Ne.symm hkm)]; exact r234) hij hik hjk hs aij aji aik aki ajk akj
        have := h u v x y w1 ((he.trans hx).trans hx1) hu hz hw (sm _ _ _ hR hx1)
        rw [cm ((listed.setIfInBounds i true).setIfInBounds j true) hkm, cm (listed.setIfInBounds i true) hjm, cm listed him, Act.put_comm ((a.put oi.dst u).put oj.dst v) x y dkm, Act.put_comm (a.put oi.dst u) v y djm, Act.put_comm a u y dim] at this
        exact this
end
end Go.Proofs.Ytipmjjnhdjcoiaa

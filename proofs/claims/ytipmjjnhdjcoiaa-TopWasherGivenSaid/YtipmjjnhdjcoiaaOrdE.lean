/- A region that draws its order: calls of known results that only lay new blocks are taken first, as loads are. No branching. -/
import Derived.OrdersHeld
import Derived.Below
import Derived.Deep.RegionHeld
namespace Go.Proofs.Ytipmjjnhdjcoiaa
open Go Go.RowKit

section
variable {P : Program} {ops : Array Oper} {Q : Exit → Act → World → Prop} {md : Region.Mode} {last : Nat}

/-- a later world: what lay is as it was. -/
abbrev Ext (w w' : World) : Prop := Below w.heap.size w w'
theorem Ext.trans {a b c : World} (h : Ext a b) (k : Ext b c) : Ext a c := Below.trans h (k.mono h.size)

/-- whatever order is picked from here on, from whatever later world; only the operation 'last' may do more than lay new blocks. -/
def wpAnyE (P : Program) (md : Region.Mode) (ops : Array Oper) (Q : Exit → Act → World → Prop) (last : Nat) : Nat → Array Bool → Act → World → Prop
  | 0, listed, a, w => Region.ready md ops listed = [] ∧ ∀ w', Ext w w' → Q .normal a w'
  | fuel + 1, listed, a, w => ∀ w', Ext w w' → (Region.ready md ops listed = [] → Q .normal a w') ∧
    ∀ i ∈ Region.ready md ops listed, wpOp P ops Q i (fun a' w'' => (i ≠ last → Ext w' w'') ∧ wpAnyE P md ops Q last fuel (listed.setIfInBounds i true) a' w'') a w'

theorem wpAny_of_E : ∀ (fuel : Nat) (listed : Array Bool) (a : Act) (w : World), wpAnyE P md ops Q last fuel listed a w → wpAny P md ops Q fuel listed a w
  | 0, _, _, w, h => ⟨h.1, h.2 w (Below.refl _ _)⟩
  | fuel + 1, _, _, w, h => ⟨(h w (Below.refl _ _)).1, fun i hi => wpOp_mono (fun a' w' h' => wpAny_of_E fuel _ a' w' h'.2) ((h w (Below.refl _ _)).2 i hi)⟩

theorem wpAnyE_later : ∀ {fuel : Nat} {listed : Array Bool} {a : Act} {w w' : World}, wpAnyE P md ops Q last fuel listed a w → Ext w w' → wpAnyE P md ops Q last fuel listed a w'
  | 0, _, _, _, _, h, he => ⟨h.1, fun w'' h'' => h.2 w'' (he.trans h'')⟩
  | _ + 1, _, _, _, _, h, he => fun w'' h'' => h w'' (he.trans h'')

/-- in every later world the operation yields the value; a call lays new blocks, no more. -/
def YieldsE (P : Program) (ops : Array Oper) (o : Oper) (v : Value) (a : Act) (w : World) : Prop :=
  (Region.wanted o (yielded ops a.tmps) = true ∧ ∀ w', Ext w w' → (execOp a.eval o).run P w' = .ok (.value v) w') ∨
  (Region.wanted o (yielded ops a.tmps) = true ∧ ∃ f args, ∀ w', Ext w w' → (execOp a.eval o).run P w' = .ok (.enter f args) w' ∧ Calls P f args w' (fun e w'' => e = .returned v ∧ Ext w' w'')) ∨
  (Region.wanted o (yielded ops a.tmps) = false ∧ v = undef)

theorem YieldsE.later {o : Oper} {v : Value} {a : Act} {w w' : World} (h : YieldsE P ops o v a w) (he : Ext w w') : YieldsE P ops o v a w' := by
  rcases h with ⟨h1, h2⟩ | ⟨h1, f, args, h2⟩ | h
  · exact .inl ⟨h1, fun w'' h'' => h2 w'' (he.trans h'')⟩
  · exact .inr (.inl ⟨h1, f, args, fun w'' h'' => h2 w'' (he.trans h'')⟩)
  · exact .inr (.inr h)

theorem YieldsE.of_same {o : Oper} {v : Value} {a a' : Act} {w : World} (hy : YieldsE P ops o v a w) (he : execOp a'.eval o = execOp a.eval o)
    (hw : Region.wanted o (yielded ops a'.tmps) = Region.wanted o (yielded ops a.tmps)) : YieldsE P ops o v a' w := by
  unfold YieldsE at *
  rw [he, hw]
  exact hy

theorem YieldsE.wpOp {i : Nat} {o : Oper} {v : Value} {a : Act} {w : World} (hi : ops[i]? = some o) (hy : YieldsE P ops o v a w)
    {K : Act → World → Prop} {w' : World} (he : Ext w w') (h : ∀ w'', Ext w' w'' → K (a.put o.dst v) w'') : wpOp P ops Q i K a w' := by
  unfold Go.wpOp
  simp only [hi]
  rcases hy with ⟨hw, hv⟩ | ⟨hw, f, args, hv⟩ | ⟨hw, rfl⟩
  · simp only [hw, if_true, Oper.wp, hv w' he, Oper.upon]; exact .inl (h w' (Below.refl _ _))
  · obtain ⟨hr, hc⟩ := hv w' he
    simp only [hw, if_true, Oper.wp, hr, Oper.upon]
    refine .inl (hc.mono ?_)
    rintro e w'' ⟨rfl, hx⟩
    exact h w'' hx
  · simp only [hw, Bool.false_eq_true, if_false]; exact h w' (Below.refl _ _)

theorem wpOp_putE {j : Nat} {oi oj : Oper} {v : Value} {wb : World} (hj : ops[j]? = some oj) (hap : oi.apart ops oj = true)
    (hsi : ∀ cs b, oi.op ≠ .select cs b) (hsj : ∀ cs b, oj.op ≠ .select cs b)
    (hQ : ∀ c a w, Q (.panic c) (a.put oi.dst v) w → Q (.panic c) a w) {K : Act → World → Prop} {a : Act} {w : World}
    (hy : YieldsE P ops oi v a wb) (h : wpOp P ops Q j K (a.put oi.dst v) w) :
    wpOp P ops Q j (fun a' w' => YieldsE P ops oi v a' wb ∧ K (a'.put oi.dst v) w') a w := by
  obtain ⟨h1, h2, h3⟩ := Oper.apart_spec hap
  have keep : ∀ (a : Act), YieldsE P ops oi v a wb → ∀ u, YieldsE P ops oi v (a.put oj.dst u) wb := fun a hy u =>
    hy.of_same (execOp_put oi hsi a oj.dst u h3) (wanted_put oi a oj.dst u h3)
  have keepD : ∀ d, YieldsE P ops oi v { a with defers := d :: a.defers } wb := fun d => hy.of_same rfl rfl
  unfold wpOp at *
  simp only [hj] at *
  rw [wanted_put oj a oi.dst v h1] at h
  split
  · rename_i hw
    simp only [hw, if_true] at h
    rcases h with h | ⟨hasks, hlets⟩
    case inr => exact .inr ⟨by unfold Oper.asks at *; rw [execOp_put oj hsj a oi.dst v h1] at hasks; exact hasks, hlets⟩
    refine .inl ?_
    unfold Oper.wp at *
    rw [execOp_put oj hsj a oi.dst v h1] at h
    generalize (execOp a.eval oj).run P w = r at *
    cases r with
    | ok n w' =>
      cases n <;> simp only [Oper.upon] at h ⊢
      case value u => exact ⟨keep a hy u, by rw [← Act.put_comm a v u h2]; exact h⟩
      case skip => exact ⟨keep a hy _, by rw [← Act.put_comm a v undef h2]; exact h⟩
      case defer d =>
        refine ⟨keep _ (keepD d) _, ?_⟩
        rw [← Act.put_comm _ v undef h2, ← Act.put_defers]
        exact h
      case enter f args =>
        refine Calls.mono h fun e w'' he => ?_
        cases e with
        | returned u => exact ⟨keep a hy u, by rw [← Act.put_comm a v u h2]; exact he⟩
        | panicked c => exact hQ _ _ _ he
        | outgrown => exact he
      case row row args => exact Rows.mono h fun u w'' he => ⟨keep a hy u, by rw [← Act.put_comm a v u h2]; exact he⟩
    | halt x w' =>
      cases x <;> simp only [Oper.upon] at h ⊢
      case panic u => exact hQ _ _ _ h
  · rename_i hw
    simp only [hw] at h
    exact ⟨keep a hy _, by rw [← Act.put_comm a v undef h2]; exact h⟩

/-- 'last' waits for number i. -/
def waits (md : Region.Mode) (ops : Array Oper) (last i : Nat) : Bool :=
  match ops[last]? with
  | none => true
  | some o => o.after.any fun e => Region.binds md e && e.on == i

theorem wpAnyE_first {i : Nat} {oi : Oper} {v : Value} (hi : ops[i]? = some oi) (hsel : ∀ (j : Nat) (o : Oper) cs b, ops[j]? = some o → o.op ≠ .select cs b)
    (hQ : ∀ c a w, Q (.panic c) (a.put oi.dst v) w → Q (.panic c) a w) (hlast : waits md ops last i = true) :
    ∀ (fuel : Nat) (listed : Array Bool) (a : Act) (w : World),
      (∀ j oj, ops[j]? = some oj → j ≠ i → listed.getD j true = false → (∀ e ∈ oj.after, Region.binds md e = true → e.on ≠ i) → oi.apart ops oj = true) →
      i ∈ Region.ready md ops listed → YieldsE P ops oi v a w →
      wpAnyE P md ops Q last fuel (listed.setIfInBounds i true) (a.put oi.dst v) w → wpAnyE P md ops Q last (fuel + 1) listed a w := by
  intro fuel
  induction fuel with
  | zero =>
    intro listed a w _ hr hy H w' he
    refine ⟨fun h => (by rw [h] at hr; cases hr), fun j hj => ?_⟩
    by_cases hji : j = i
    · subst hji; exact hy.wpOp hi he (fun w'' hx => ⟨fun _ => hx, wpAnyE_later H (he.trans hx)⟩)
    · have := ready_mono hj hji
      rw [H.1] at this
      cases this
  | succ fuel ih =>
    intro listed a w hfree hr hy H w' he
    refine ⟨fun h => (by rw [h] at hr; cases hr), fun j hj => ?_⟩
    by_cases hji : j = i
    · subst hji; exact hy.wpOp hi he (fun w'' hx => ⟨fun _ => hx, wpAnyE_later H (he.trans hx)⟩)
    · have h1 := (H w' he).2 j (ready_mono hj hji)
      obtain ⟨hjun, oj, hoj, hall⟩ := mem_ready.1 hj
      have hnot : ∀ e ∈ oj.after, Region.binds md e = true → e.on ≠ i := fun e he hb heq => by
        have h1 := hall e he hb
        have h0 := (mem_ready.1 hr).1
        rw [heq] at h1
        rcases Nat.lt_or_ge i listed.size with h' | h'
        · simp [h'] at h0 h1; rw [h0] at h1; cases h1
        · simp [Array.getElem?_eq_none h'] at h1
      have hjl : j ≠ last := fun hl => by
        subst hl
        simp only [waits, hoj] at hlast
        obtain ⟨e, he, hb⟩ := Array.any_eq_true'.1 hlast
        simp only [Bool.and_eq_true, beq_iff_eq] at hb
        exact hnot e he hb.1 hb.2
      have h2 := wpOp_putE hoj (hfree j oj hoj hji hjun hnot) (fun cs b => hsel i oi cs b hi) (fun cs b => hsel j oj cs b hoj) hQ (hy.later he) h1
      have hfree' : ∀ k ok, ops[k]? = some ok → k ≠ i → (listed.setIfInBounds j true).getD k true = false →
          (∀ e ∈ ok.after, Region.binds md e = true → e.on ≠ i) → oi.apart ops ok = true := fun k ok hk hki hun hno => by
        refine hfree k ok hk hki ?_ hno
        by_cases hjk : j = k
        · subst hjk; exact hjun
        · rw [getD_set_ne true hjk] at hun; exact hun
      refine wpOp_mono (fun a' w'' h3 => ⟨fun _ => h3.2.1 hjl, ih (listed.setIfInBounds j true) a' w'' hfree' (ready_mono hr (Ne.symm hji)) (h3.1.later (h3.2.1 hjl)) ?_⟩) h2
      rw [Array.setIfInBounds_comm _ _ hji]
      exact h3.2.2

/-- take number i first. -/
theorem wpAnyE_take {i : Nat} {oi : Oper} {v : Value} {fuel : Nat} {listed : Array Bool} {a : Act} {w : World} (hi : ops[i]? = some oi)
    (hs : Region.noSelect ops = true) (hf : Region.free md ops listed i = true) (hr : (Region.ready md ops listed).contains i = true) (hl : waits md ops last i = true)
    (hQ : ∀ c a w, Q (.panic c) (a.put oi.dst v) w → Q (.panic c) a w) (hy : YieldsE P ops oi v a w)
    (h : wpAnyE P md ops Q last fuel (listed.setIfInBounds i true) (a.put oi.dst v) w) : wpAnyE P md ops Q last (fuel + 1) listed a w :=
  wpAnyE_first hi (Region.noSelect_spec hs) hQ hl fuel listed a w (Region.free_spec hi hf) (by simpa using hr) hy h

/-- take a call first: its contract is at hand in every later world. -/
theorem wpAnyE_call {i : Nat} {oi : Oper} {v : Value} {f : FuncId} {args : Array Value} {fuel : Nat} {listed : Array Bool} {a : Act} {w : World}
    (hc : ∀ w', Ext w w' → Calls P f args w' (fun e w'' => e = .returned v ∧ Ext w' w'')) (hi : ops[i]? = some oi)
    (hs : Region.noSelect ops = true) (hf : Region.free md ops listed i = true) (hr : (Region.ready md ops listed).contains i = true) (hl : waits md ops last i = true)
    (hQ : ∀ c a w, Q (.panic c) (a.put oi.dst v) w → Q (.panic c) a w) (hw : Region.wanted oi (yielded ops a.tmps) = true)
    (hrun : ∀ w', Ext w w' → (execOp a.eval oi).run P w' = .ok (.enter f args) w')
    (h : wpAnyE P md ops Q last fuel (listed.setIfInBounds i true) (a.put oi.dst v) w) : wpAnyE P md ops Q last (fuel + 1) listed a w :=
  wpAnyE_take hi hs hf hr hl hQ (.inr (.inl ⟨hw, f, args, fun w' he => ⟨hrun w' he, hc w' he⟩⟩)) h

/-- the two above under short names, what is decided left out. -/
theorem zT (i : Nat) (oi : Oper) {v : Value} {fuel : Nat} {listed : Array Bool} {a : Act} {w : World} (hi : ops[i]? = some oi) (hy : YieldsE P ops oi v a w)
    (h : wpAnyE P md ops Q last fuel (listed.setIfInBounds i true) (a.put oi.dst v) w)
    (hs : Region.noSelect ops = true := by kernel_rfl) (hf : Region.free md ops listed i = true := by kernel_rfl) (hr : (Region.ready md ops listed).contains i = true := by kernel_rfl) (hl : waits md ops last i = true := by kernel_rfl)
    (hQ : ∀ c a w, Q (.panic c) (a.put oi.dst v) w → Q (.panic c) a w := by exact fun _ _ _ h => h) : wpAnyE P md ops Q last (fuel + 1) listed a w :=
  wpAnyE_take hi hs hf hr hl hQ hy h
theorem zC (i : Nat) (oi : Oper) {v : Value} {f : FuncId} {args : Array Value} {fuel : Nat} {listed : Array Bool} {a : Act} {w : World}
    (hc : ∀ w', Ext w w' → Calls P f args w' (fun e w'' => e = .returned v ∧ Ext w' w'')) (hi : ops[i]? = some oi) (hw : Region.wanted oi (yielded ops a.tmps) = true)
    (hrun : ∀ w', Ext w w' → (execOp a.eval oi).run P w' = .ok (.enter f args) w')
    (h : wpAnyE P md ops Q last fuel (listed.setIfInBounds i true) (a.put oi.dst v) w)
    (hs : Region.noSelect ops = true := by kernel_rfl) (hf : Region.free md ops listed i = true := by kernel_rfl) (hr : (Region.ready md ops listed).contains i = true := by kernel_rfl) (hl : waits md ops last i = true := by kernel_rfl)
    (hQ : ∀ c a w, Q (.panic c) (a.put oi.dst v) w → Q (.panic c) a w := by exact fun _ _ _ h => h) : wpAnyE P md ops Q last (fuel + 1) listed a w :=
  wpAnyE_call hc hi hs hf hr hl hQ hw hrun h

/-- a value taken first; an operation that does not run; both with the world held; a call. -/
theorem zV (i : Nat) (oi : Oper) {v : Value} {fuel : Nat} {listed : Array Bool} {a : Act} {w : World} (hi : ops[i]? = some oi)
    (h : wpAnyE P md ops Q last fuel (listed.setIfInBounds i true) (a.put oi.dst v) w) (hv : ∀ w', Ext w w' → (execOp a.eval oi).run P w' = .ok (.value v) w' := by (intro w hE; (try dsimp only); go_simp; try rfl)) (hw : Region.wanted oi (yielded ops a.tmps) = true := by rfl)
    (hs : Region.noSelect ops = true := by kernel_rfl) (hf : Region.free md ops listed i = true := by kernel_rfl) (hr : (Region.ready md ops listed).contains i = true := by kernel_rfl) (hl : waits md ops last i = true := by kernel_rfl)
    (hQ : ∀ c a w, Q (.panic c) (a.put oi.dst v) w → Q (.panic c) a w := by exact fun _ _ _ h => h) : wpAnyE P md ops Q last (fuel + 1) listed a w :=
  wpAnyE_take hi hs hf hr hl hQ (.inl ⟨hw, hv⟩) h
theorem zK (i : Nat) (oi : Oper) {fuel : Nat} {listed : Array Bool} {a : Act} {w : World} (hi : ops[i]? = some oi)
    (h : wpAnyE P md ops Q last fuel (listed.setIfInBounds i true) (a.put oi.dst undef) w) (hw : Region.wanted oi (yielded ops a.tmps) = false := by rfl)
    (hs : Region.noSelect ops = true := by kernel_rfl) (hf : Region.free md ops listed i = true := by kernel_rfl) (hr : (Region.ready md ops listed).contains i = true := by kernel_rfl) (hl : waits md ops last i = true := by kernel_rfl)
    (hQ : ∀ c a w, Q (.panic c) (a.put oi.dst undef) w → Q (.panic c) a w := by exact fun _ _ _ h => h) : wpAnyE P md ops Q last (fuel + 1) listed a w :=
  wpAnyE_take hi hs hf hr hl hQ (.inr (.inr ⟨hw, rfl⟩)) h
theorem zB (i : Nat) (oi : Oper) {v : Value} {f : FuncId} {args : Array Value} {fuel : Nat} {listed : Array Bool} {a : Act} {w : World}
    (hc : ∀ w', Ext w w' → Calls P f args w' (fun e w'' => e = .returned v ∧ Ext w' w'')) (hi : ops[i]? = some oi)
    (h : wpAnyE P md ops Q last fuel (listed.setIfInBounds i true) (a.put oi.dst v) w) (hrun : ∀ w', Ext w w' → (execOp a.eval oi).run P w' = .ok (.enter f args) w' := by (intro w hE; (try dsimp only); go_simp)) (hw : Region.wanted oi (yielded ops a.tmps) = true := by rfl)
    (hs : Region.noSelect ops = true := by kernel_rfl) (hf : Region.free md ops listed i = true := by kernel_rfl) (hr : (Region.ready md ops listed).contains i = true := by kernel_rfl) (hl : waits md ops last i = true := by kernel_rfl)
    (hQ : ∀ c a w, Q (.panic c) (a.put oi.dst v) w → Q (.panic c) a w := by exact fun _ _ _ h => h) : wpAnyE P md ops Q last (fuel + 1) listed a w :=
  wpAnyE_call hc hi hs hf hr hl hQ hw hrun h
theorem zH {S : World → Prop} (i : Nat) (oi : Oper) {v : Value} {fuel : Nat} {listed : Array Bool} {a : Act} {w : World} (hi : ops[i]? = some oi)
    (h : wpAnyH P md ops Q S fuel (listed.setIfInBounds i true) (a.put oi.dst v) w) (hv : ∀ w', S w' → (execOp a.eval oi).run P w' = .ok (.value v) w' := by (intro w hSw; (try dsimp only at hSw); go_simp; try rfl)) (hS : S w := by assumption) (hw : Region.wanted oi (yielded ops a.tmps) = true := by rfl)
    (hs : Region.noSelect ops = true := by kernel_rfl) (hf : Region.free md ops listed i = true := by kernel_rfl) (hr : (Region.ready md ops listed).contains i = true := by kernel_rfl)
    (hQ : ∀ c a w, Q (.panic c) (a.put oi.dst v) w → Q (.panic c) a w := by exact fun _ _ _ h => h) : wpAnyH P md ops Q S (fuel + 1) listed a w :=
  wpAnyH_take hi hs hf hr hQ (.inl ⟨hw, hv⟩) hS h
theorem zL {S : World → Prop} (i : Nat) (oi : Oper) {fuel : Nat} {listed : Array Bool} {a : Act} {w : World} (hi : ops[i]? = some oi)
    (h : wpAnyH P md ops Q S fuel (listed.setIfInBounds i true) (a.put oi.dst undef) w) (hS : S w := by assumption) (hw : Region.wanted oi (yielded ops a.tmps) = false := by rfl)
    (hs : Region.noSelect ops = true := by kernel_rfl) (hf : Region.free md ops listed i = true := by kernel_rfl) (hr : (Region.ready md ops listed).contains i = true := by kernel_rfl)
    (hQ : ∀ c a w, Q (.panic c) (a.put oi.dst undef) w → Q (.panic c) a w := by exact fun _ _ _ h => h) : wpAnyH P md ops Q S (fuel + 1) listed a w :=
  wpAnyH_take hi hs hf hr hQ (.inr ⟨hw, rfl⟩) hS h

theorem ofPure {f : FuncId} {args : Array Value} {w : World} {r : Ending} (h : Calls P f args w (fun e w' => e = r ∧ w = w')) : Calls P f args w (fun e w' => e = r ∧ Ext w w') :=
  h.mono (fun e w' ⟨h1, h2⟩ => ⟨h1, by rw [← h2]; exact Below.refl _ _⟩)

/-- the one that may come up is walked, in whatever later world. -/
theorem wpAnyE_one {i : Nat} {o : Oper} {fuel : Nat} {listed : Array Bool} {a : Act} {w : World} (hr : Region.ready md ops listed = [i]) (hi : ops[i]? = some o)
    (h : ∀ w', Ext w w' → ∀ K' : Act → World → Prop, (∀ a'' w'', (i ≠ last → Ext w' w'') → wpAnyE P md ops Q last fuel (listed.setIfInBounds i true) a'' w'' → K' a'' w'') →
      if Region.wanted o (yielded ops a.tmps) = true then Oper.wp P o a w' K' Q else K' (a.put o.dst undef) w') : wpAnyE P md ops Q last (fuel + 1) listed a w := fun w' he => by
  refine ⟨fun h0 => (by rw [hr] at h0; cases h0), fun j hj => ?_⟩
  rw [hr] at hj
  obtain rfl := List.mem_singleton.1 hj
  exact wpOp_step hi (fun K' hK => h w' he K' (fun a'' w'' hx hW => hK a'' w'' ⟨hx, hW⟩))

theorem wpAnyE_done {listed : Array Bool} {a : Act} {w : World} (hr : Region.ready md ops listed = []) (h : ∀ w', Ext w w' → Q .normal a w') :
    ∀ fuel, wpAnyE P md ops Q last fuel listed a w
  | 0 => ⟨hr, h⟩
  | _ + 1 => fun w' he => ⟨fun _ => h w' he, by rw [hr]; simp⟩

theorem wp_region_E {id : Nat} {a : Act} {w : World} (last : Nat) (hm : P.follows .mixedOrders = true)
    (h : wpAnyE P .any ops Q last ops.size (Array.replicate ops.size false) a w.drew) : (Code.region id ops true).wp P Q a w :=
  wp_region_any hm (wpAny_of_E _ _ _ _ h)

end

end Go.Proofs.Ytipmjjnhdjcoiaa

/- A range over a function whose iterator tells, of each element that it hands to the body, what the world then says of it. -/
import Derived.Test.YtnlmaildmeihgaaGreatDoorBox
namespace Go.Proofs.YtnlmaildmeihgaaGreatDoor
open Go.RowKit

section
variable {α : Type} {F : Fence} {n : Nat} {P : Program}

/-- what an iterator does with its yield: X tells of an element what holds of it as it is handed over; Kp is what a body must keep; wr: it may write blocks that it has laid itself. -/
def SeqX (F : Fence) (n : Nat) (P : Program) (g : Nat) (lb : Array Value) (encs : α → Array Value) (X : List α → α → World → Prop) (Kp : World → World → Prop) (S Sp : List α → Prop) (wr : Bool) (w : World) : Prop :=
  ∀ (l : Nat) (J Jx : List α → World → Prop) (W : World), Below w.heap.size w W →
    (∀ pre A B row, J pre A → A.grownBy B row → (∀ r, row = some r → wr = true ∧ W.heap.size ≤ r) → J pre B) → (∀ pre A B, Jx pre A → A.grownBy B none → Jx pre B) →
    (∀ pre x W1, J pre W1 → X pre x W1 → YieldAt F (n - 1) P l (encs x) W1 fun e W' =>
      (e = .returned (.bool true) ∧ J (pre ++ [x]) W' ∧ Kp W1 W') ∨ (e = .returned (.bool false) ∧ Jx (pre ++ [x]) W')) →
    J [] W →
    CallsIn F n P g (#[.func (.yield l) #[] #[]] ++ lb) W fun e W' => (∃ v, e = .returned v) ∧ ((∃ xs, S xs ∧ J xs W') ∨ (∃ pre, Sp pre ∧ Jx pre W'))

/-- the two blocks that the model keeps for an outermost loop. -/
def Books (D : Nat) (R : LoopState → Option Code → Loop) (st : LoopState) (pe : Option Code) (W : World) : Prop :=
  W.heap[D + 1]? = some (.loop (R st pe)) ∧ W.heap[D]? = some (.deferred (some []))

theorem Books.grow {D : Nat} {R : LoopState → Option Code → Loop} {st : LoopState} {pe : Option Code} {A B : World} {row : Option Nat} (h : Books D R st pe A) (hg : A.grownBy B row) (hr : ∀ r, row = some r → D + 2 ≤ r) : Books D R st pe B :=
  ⟨(hg.block _ (Array.getElem?_eq_some_iff.1 h.1).1 (fun e => by have := hr _ e.symm; omega)).trans h.1, (hg.block _ (Array.getElem?_eq_some_iff.1 h.2).1 (fun e => by have := hr _ e.symm; omega)).trans h.2⟩
theorem Books.from {D : Nat} {R : LoopState → Option Code → Loop} {st : LoopState} {pe : Option Code} {A B : World} (h : Books D R st pe A) (hg : KeepsFrom D A B) : Books D R st pe B :=
  ⟨hg.same _ _ (by omega) h.1 rfl, hg.same _ _ (by omega) h.2 rfl⟩
theorem Books.turn {D : Nat} {R : LoopState → Option Code → Loop} {st st' : LoopState} {pe pe' : Option Code} {A : World} (h : Books D R st pe A) : Books D R st' pe' (A.putObj (D + 1) (.loop (R st' pe'))) :=
  ⟨World.putObj_heap_same (Array.getElem?_eq_some_iff.1 h.1).1, (World.putObj_heap_other (by omega)).trans h.2⟩

theorem wpIn_rangeX {g : Operand} {ps : Array Tmp} {assign body : Code} {Q : Exit → Act → World → Prop} {a : Act} {w : World}
    (hro : F.round = none) (h1 : 1 ≤ n) {gf : Nat} {lb : Array Value} (hg : a.eval g = .func (.func gf) #[] lb) (hFg : F.fn gf) (eg : ∀ args w, (callFunc gf args).run P w = .ok (.enter gf args) w)
    {encs : α → Array Value} {X : List α → α → World → Prop} {Kp : World → World → Prop} {S Sp : List α → Prop} {wr : Bool} {w0 : World} (hseq : SeqX F (n - 1) P gf lb encs X Kp S Sp wr w0)
    (hKt : ∀ {A B C : World}, Kp A B → Kp B C → Kp A C) (hKb : ∀ (W : World) (l : Nat) (o o' : Obj), w.heap.size ≤ l → W.heap[l]? = some o → o.isCells = false → o.isWalk = false → Kp W (W.putObj l o')) (hb0 : Below w0.heap.size w0 w) (hps : ∀ x, (encs x).size = ps.size)
    (I : List α → World → Prop) (Ix : Code → List α → World → Prop) (hI : OwnFrom w.heap.size I) (hIx : ∀ c, OwnFrom w.heap.size (Ix c)) (h0 : I [] w)
    (hIw : wr = true → ∀ pre A B r, I pre A → A.grownBy B (some r) → w.heap.size ≤ r → I pre B)
    (Ax : List α → α → Act → World → Prop) (hAx : ∀ pre x a', OwnFrom w.heap.size (fun (_ : Unit) W => Ax pre x a' W))
    (hassign : ∀ (l : Nat) (pre : List α) (x : α) (W : World) (K : Act → World → Prop), I pre W → X pre x W → (∀ a' W', KeepsFrom w.heap.size W W' → Kp W W' → I pre W' → Ax pre x a' W' → K a' W') →
      assign.wpIn (F.inRound l) (n - 1 - 1) P (Exit.then K (fun _ _ _ => False)) { tmps := (ps.zip (encs x)).foldl (fun t (p, v) => t.setIfInBounds p v) a.tmps, defers := [] } W)
    (hbody : ∀ (l : Nat) (pre : List α) (x : α) (a' : Act) (W : World), I pre W → Ax pre x a' W → body.wpIn (F.inRound l) (n - 1 - 1) P (ownPostG w.heap.size Kp I Ix (pre ++ [x]) W) a' W)
    (hdone : ∀ (D : Nat) (xs : List α) (W : World), w.heap.size ≤ D → S xs → I xs W → W.heap[D]? = some (.deferred (some [])) → Q .normal { a with defers := { target := .collected D, args := #[] } :: a.defers } W)
    (hstop : ∀ (D : Nat) (c : Code) (pre : List α) (W : World), w.heap.size ≤ D → Sp pre → Ix c pre W → W.heap[D]? = some (.deferred (some [])) → c.wpIn F n P Q { a with defers := { target := .collected D, args := #[] } :: a.defers } W) :
    (Code.rangeFunc g ps assign body).wpIn F n P Q a w := by
  refine wpIn_rangeFunc fun fn hfn => ?_
  rw [hro]
  obtain ⟨R, hR⟩ : ∃ R : LoopState → Option Code → Loop, ∀ st pe, R st pe = { state := st, pending := pe, fn, tmps := a.tmps, params := ps, assign, body, defers := w.heap.size } := ⟨_, fun _ _ => rfl⟩
  obtain ⟨V, hV⟩ : ∃ V, V = (w.alloc (.deferred (some []))).alloc (.loop (R .ready none)) := ⟨_, rfl⟩
  have hen := run_enterLoop_outer (P := P) (w := w) fn a.tmps ps assign body
  rw [← hR, ← hV] at hen
  have hbk : Books w.heap.size R .ready none V := by
    rw [hV]
    refine ⟨?_, (Below.heap_alloc _ _ _ (by simp)).trans (World.alloc_heap_new w _)⟩
    have := World.alloc_heap_new (w.alloc (.deferred (some []))) (.loop (R .ready none))
    rwa [World.size_alloc] at this
  have hbV : Below w0.heap.size w0 V := by
    rw [hV]; exact hb0.trans ((((Below.refl _ w).alloc (Nat.le_refl _) _).alloc (by simp) _).mono hb0.size)
  have hVs : V.heap.size = w.heap.size + 2 := by rw [hV]; simp
  have hIV : I [] V := by rw [hV]; exact hI.alloc _ (hI.alloc _ h0)
  refine ⟨_, _, V, { target := .fn (.func gf) lb, args := #[.func (.yield (w.heap.size + 1)) #[] #[]] }, V, gf, _, V, hen, by simp only [resolve, hg]; simp [go_sem], fun f' hf' => by simp [Target.leads] at hf'; subst hf'; exact hFg, by simp [invoke, go_sem, eg]; rfl, fun _ => h1, ?_⟩
  have turnI : ∀ {W : World} {pre : List α} {st st' : LoopState} {pe pe' : Option Code}, I pre W → Books w.heap.size R st pe W → I pre (W.putObj (w.heap.size + 1) (.loop (R st' pe'))) := fun hi hb => hI.putObj _ hi (by omega) hb.1 rfl
  have turnX : ∀ {W : World} {pre : List α} {c : Code} {st st' : LoopState} {pe pe' : Option Code}, Ix c pre W → Books w.heap.size R st pe W → Ix c pre (W.putObj (w.heap.size + 1) (.loop (R st' pe'))) := fun hi hb => (hIx _).putObj _ hi (by omega) hb.1 rfl
  have turnK : ∀ {W : World} {st st' : LoopState} {pe pe' : Option Code}, Books w.heap.size R st pe W → Kp W (W.putObj (w.heap.size + 1) (.loop (R st' pe'))) := fun hb => hKb _ _ _ _ (by omega) hb.1 rfl rfl
  refine (hseq (w.heap.size + 1) (fun pre W => I pre W ∧ Books w.heap.size R .ready none W) (fun pre W => ∃ c, Ix c pre W ∧ Books w.heap.size R .done (some c) W) V hbV
    (fun pre A B row h hg hr => ⟨by
      cases row with
      | none => exact hI pre A B none h.1 hg (fun r e => by cases e)
      | some r => exact hIw (hr r rfl).1 pre A B r h.1 hg (by have := (hr r rfl).2; omega), h.2.grow hg (fun r e => by have := (hr r e).2; omega)⟩)
    (fun pre A B ⟨c, h, hb⟩ hg => ⟨c, hIx c pre A B none h hg (fun r e => by cases e), hb.grow hg (fun r e => by cases e)⟩) ?_ ⟨hIV, hbk⟩).mono ?_
  · rintro pre x W ⟨hi, hb⟩ hx
    have hy := run_yield (P := P) (args := encs x) hb.1 (by rw [hR]; exact hps x)
    simp only [hR] at hy
    refine ⟨fn, _, assign, body, hy, roundIn_of_wpIn hfn (hassign _ pre x W _ hi hx fun a' W' hkf hkp hi' hax => ?_)⟩
    have hb' := hb.from hkf
    have hbusy : Books w.heap.size R .busy none (W'.putObj (w.heap.size + 1) (.loop (R .busy none))) := hb'.turn
    have hbg := run_beginRound (P := P) hb'.1 (by rw [hR])
    have e1 : ({ R .ready none with state := .busy } : Loop) = R .busy none := by rw [hR, hR]
    rw [e1] at hbg
    refine ⟨_, hbg, wpIn_mono (hbody _ pre x a' _ (turnI hi' hb') ((hAx pre x a').putObj (s := ()) _ hax (by omega) hb'.1 rfl)) ?_⟩
    have fin : ∀ (jump : Option Code) (W3 : World), Books w.heap.size R .busy none W3 → (Instr.endRound (w.heap.size + 1) jump).run P W3 = .ok (.bool jump.isNone) (W3.putObj (w.heap.size + 1) (.loop (R (if jump.isNone then .ready else .done) jump))) := fun jump W3 h3 => by
      have := run_endRound (P := P) jump h3.1
      rw [this]; congr 3
      rw [hR, hR]
    have stop : ∀ (c : Code) (W3 : World), KeepsFrom w.heap.size (W'.putObj (w.heap.size + 1) (.loop (R .busy none))) W3 → Ix c (pre ++ [x]) W3 → ∃ v w', (Instr.endRound (w.heap.size + 1) (some c)).run P W3 = .ok v w' ∧
        ((Ending.returned v = .returned (.bool true) ∧ (I (pre ++ [x]) w' ∧ Books w.heap.size R .ready none w') ∧ Kp W w') ∨ (Ending.returned v = .returned (.bool false) ∧ ∃ c, Ix c (pre ++ [x]) w' ∧ Books w.heap.size R .done (some c) w')) := fun c W3 hk3 hi3 =>
      ⟨_, _, fin (some c) W3 (hbusy.from hk3), .inr ⟨rfl, c, turnX hi3 (hbusy.from hk3), (hbusy.from hk3).turn⟩⟩
    rintro e a3 W3 hp
    cases e with
    | normal =>
      obtain ⟨hk3, hkp3, hi3⟩ := hp
      exact ⟨_, _, fin none W3 (hbusy.from hk3), .inl ⟨rfl, ⟨turnI hi3 (hbusy.from hk3), (hbusy.from hk3).turn⟩, hKt hkp (hKt (turnK hb') (hKt hkp3 (turnK (hbusy.from hk3))))⟩⟩
    | ret => exact stop _ W3 hp.1 hp.2
    | exit id => exact stop _ W3 hp.1 hp.2
    | goto t => exact stop _ W3 hp.1 hp.2
    | panic ch => exact hp.elim
    | outgrown => exact hp.elim
  · have fin : ∀ (st : LoopState) (pe : Option Code) (W3 : World), st ≠ .busy → Books w.heap.size R st pe W3 → (Instr.endLoop (w.heap.size + 1)).run P W3 = .ok pe (W3.putObj (w.heap.size + 1) (.loop (R .exhausted pe))) := fun st pe W3 hst h3 => by
      have := run_endLoop (P := P) h3.1 (by rw [hR]; exact hst)
      rw [this]
      simp only [hR]
    rintro e W2 ⟨⟨v, rfl⟩, ⟨xs, hS, hi, hb⟩ | ⟨pre, hSp, c, hi, hb⟩⟩
    · exact ⟨none, _, fin _ _ _ (by simp) hb, hdone _ xs _ (Nat.le_refl _) hS (turnI hi hb) (hb.turn (st' := .exhausted) (pe' := none)).2⟩
    · exact ⟨some c, _, fin _ _ _ (by simp) hb, hstop _ c pre _ (Nat.le_refl _) hSp (turnX hi hb) (hb.turn (st' := .exhausted) (pe' := some c)).2⟩
end

/-- the law for one loop variable that lies in a slot: s; yield's own slot is p. -/
theorem wp_rangeV {δ : Type} {P : Program} {g : Operand} {p s : Nat} {assign body : Code} {Q : Exit → Act → World → Prop} {a : Act} {w : World}
    {gf : Nat} {lb : Array Value} (hg : a.eval g = .func (.func gf) #[] lb) (eg : ∀ args w, (callFunc gf args).run P w = .ok (.enter gf args) w)
    {X : List (Value × δ) → Value × δ → World → Prop} {Kp : World → World → Prop} {S Sp : List (Value × δ) → Prop} {wr : Bool} {w0 : World} (hseq : SeqX Fence.wide 4 P gf lb (fun x => #[x.1]) X Kp S Sp wr w0)
    (hKt : ∀ {A B C : World}, Kp A B → Kp B C → Kp A C) (hKb : ∀ (W : World) (l : Nat) (o o' : Obj), w.heap.size ≤ l → W.heap[l]? = some o → o.isCells = false → o.isWalk = false → Kp W (W.putObj l o')) (hKr : ∀ W, Kp W W) (hb0 : Below w0.heap.size w0 w)
    (I : List (Value × δ) → World → Prop) (Ix : Code → List (Value × δ) → World → Prop) (hI : OwnFrom w.heap.size I) (hIx : ∀ c, OwnFrom w.heap.size (Ix c)) (h0 : I [] w)
    (hIw : wr = true → ∀ pre A B r, I pre A → A.grownBy B (some r) → w.heap.size ≤ r → I pre B)
    (hX : ∀ pre, OwnFrom w.heap.size (X pre))
    (hassign : ∀ (l : Nat) (v : Value) (W : World) (K : Act → World → Prop), K { tmps := (a.tmps.setIfInBounds p v).setIfInBounds s v, defers := [] } W →
      assign.wpIn (Fence.wide.inRound l) 3 P (Exit.then K (fun _ _ _ => False)) { tmps := a.tmps.setIfInBounds p v, defers := [] } W)
    (hbody : ∀ (l : Nat) (pre : List (Value × δ)) (x : Value × δ) (W : World), I pre W → X pre x W → body.wpIn (Fence.wide.inRound l) 3 P (ownPostG w.heap.size Kp I Ix (pre ++ [x]) W) { tmps := (a.tmps.setIfInBounds p x.1).setIfInBounds s x.1, defers := [] } W)
    (hdone : ∀ (D : Nat) (xs : List (Value × δ)) (W : World), w.heap.size ≤ D → S xs → I xs W → W.heap[D]? = some (.deferred (some [])) → Q .normal { a with defers := { target := .collected D, args := #[] } :: a.defers } W)
    (hstop : ∀ (D : Nat) (c : Code) (pre : List (Value × δ)) (W : World), w.heap.size ≤ D → Sp pre → Ix c pre W → W.heap[D]? = some (.deferred (some [])) → c.wp P Q { a with defers := { target := .collected D, args := #[] } :: a.defers } W) :
    (Code.rangeFunc g #[p] assign body).wp P Q a w :=
  (wpIn_wide (n := 5)).1 (wpIn_rangeX rfl (by omega) hg trivial eg hseq hKt hKb hb0 (fun _ => rfl) I Ix hI hIx h0 hIw
    (fun pre x a' W => a' = { tmps := (a.tmps.setIfInBounds p x.1).setIfInBounds s x.1, defers := [] } ∧ X pre x W) (fun pre x a' _ A B row hs hg hr => ⟨hs.1, hX pre x A B row hs.2 hg hr⟩)
    (fun l pre x W K hi hx hK => by
      have e : ((#[p].zip #[x.1]).foldl (fun t (p, v) => t.setIfInBounds p v) a.tmps) = a.tmps.setIfInBounds p x.1 := by simp
      rw [e]; exact hassign l x.1 W K (hK _ _ (KeepsFrom.refl _ _) (hKr W) hi ⟨rfl, hx⟩))
    (fun l pre x a' W hi ⟨e, hx⟩ => by subst e; exact hbody l pre x W hi hx) hdone (fun D c pre W h1 h2 h3 h4 => wpIn_wide.2 (hstop D c pre W h1 h2 h3 h4)))

/-- I abides whatever happens to blocks from H on. -/
def StableFrom {β : Type} (H : Nat) (I : β → World → Prop) : Prop := ∀ s A B row, I s A → A.grownBy B row → (∀ r, row = some r → H ≤ r) → I s B
theorem StableFrom.own {β : Type} {H : Nat} {I : β → World → Prop} (h : StableFrom H I) : OwnFrom H I := fun s A B row hs hg hr => h s A B row hs hg (fun r e => (hr r e).1)
theorem StableFrom.and {β : Type} {H : Nat} {I I' : β → World → Prop} (h : StableFrom H I) (h' : StableFrom H I') : StableFrom H (fun s W => I s W ∧ I' s W) := fun s A B row hs hg hr => ⟨h s A B row hs.1 hg hr, h' s A B row hs.2 hg hr⟩
theorem StableFrom.pure {β : Type} (H : Nat) (p : β → Prop) : StableFrom H (fun s (_ : World) => p s) := fun _ _ _ _ hs _ _ => hs
theorem StableFrom.below {β : Type} {H n₀ : Nat} {w : World} (h : n₀ ≤ H) (hw : n₀ ≤ w.heap.size) : StableFrom H (fun (_ : β) W => Below n₀ w W) := fun _ A B row hs hg hr =>
  hs.grown hg (by have := hs.size; omega) (fun r e => by have := hr r e; omega)
theorem StableFrom.block {β : Type} {H B : Nat} (h : B < H) (f : β → Option Obj) : StableFrom H (fun (s : β) W => W.heap[B]? = f s ∧ B < W.heap.size) := fun s A B' row hs hg hr =>
  ⟨(hg.block B hs.2 (fun e => by have := hr B e.symm; omega)).trans hs.1, Nat.lt_of_lt_of_le hs.2 hg.size⟩
theorem keeps_of_below {A B : World} (h : Below A.heap.size A B) : KeepsOthers A B := ⟨h.size, fun k _ hk _ => (h.block k (Array.getElem?_eq_some_iff.1 hk).1).trans hk⟩

/-- the same, where what the caller knows abides whatever happens to later blocks. -/
theorem wp_rangeS {δ : Type} {P : Program} {g : Operand} {p s : Nat} {assign body : Code} {Q : Exit → Act → World → Prop} {a : Act} {w : World}
    {gf : Nat} {lb : Array Value} (hg : a.eval g = .func (.func gf) #[] lb) (eg : ∀ args w, (callFunc gf args).run P w = .ok (.enter gf args) w)
    {X : List (Value × δ) → Value × δ → World → Prop} {Kp : World → World → Prop} {S Sp : List (Value × δ) → Prop} {wr : Bool} {w0 : World} (hseq : SeqX Fence.wide 4 P gf lb (fun x => #[x.1]) X Kp S Sp wr w0)
    (hKt : ∀ {A B C : World}, Kp A B → Kp B C → Kp A C) (hKb : ∀ (W : World) (l : Nat) (o o' : Obj), w.heap.size ≤ l → W.heap[l]? = some o → o.isCells = false → o.isWalk = false → Kp W (W.putObj l o')) (hKr : ∀ W, Kp W W) (hb0 : Below w0.heap.size w0 w)
    (I : List (Value × δ) → World → Prop) (Ix : Code → List (Value × δ) → World → Prop) (hI : StableFrom w.heap.size I) (hIx : ∀ c, OwnFrom w.heap.size (Ix c)) (h0 : I [] w)
    (hX : ∀ pre, OwnFrom w.heap.size (X pre))
    (hassign : ∀ (l : Nat) (v : Value) (W : World) (K : Act → World → Prop), K { tmps := (a.tmps.setIfInBounds p v).setIfInBounds s v, defers := [] } W →
      assign.wpIn (Fence.wide.inRound l) 3 P (Exit.then K (fun _ _ _ => False)) { tmps := a.tmps.setIfInBounds p v, defers := [] } W)
    (hbody : ∀ (l : Nat) (pre : List (Value × δ)) (x : Value × δ) (W : World), I pre W → X pre x W → body.wpIn (Fence.wide.inRound l) 3 P (ownPostG w.heap.size Kp I Ix (pre ++ [x]) W) { tmps := (a.tmps.setIfInBounds p x.1).setIfInBounds s x.1, defers := [] } W)
    (hdone : ∀ (D : Nat) (xs : List (Value × δ)) (W : World), w.heap.size ≤ D → S xs → I xs W → W.heap[D]? = some (.deferred (some [])) → Q .normal { a with defers := { target := .collected D, args := #[] } :: a.defers } W)
    (hstop : ∀ (D : Nat) (c : Code) (pre : List (Value × δ)) (W : World), w.heap.size ≤ D → Sp pre → Ix c pre W → W.heap[D]? = some (.deferred (some [])) → c.wp P Q { a with defers := { target := .collected D, args := #[] } :: a.defers } W) :
    (Code.rangeFunc g #[p] assign body).wp P Q a w :=
  wp_rangeV hg eg hseq hKt hKb hKr hb0 I Ix hI.own hIx h0 (fun _ pre A B r h hg hr => hI pre A B (some r) h hg (fun r' e => by cases e; exact hr)) hX hassign hbody hdone hstop

/-- what a function that ranges over functions leaves: it returns; the block for the rounds' deferred calls is taken over. -/
def postR (P : Program) (fn : Func) (R : Ending → World → Prop) : Exit → Act → World → Prop
  | .ret, a, w => LeavesInM Fence.wide 5 P fn a.tmps R a.defers .returning w
  | .normal, a, w => LeavesInM Fence.wide 5 P fn a.tmps R a.defers .returning w
  | _, _, _ => False

theorem calls_of_postR {P : Program} {f : FuncId} {fn : Func} {c : Code} {args : Array Value} {w : World} {R : Ending → World → Prop} (hf : P.funcs[f]? = some fn) (hb : fn.body = some c)
    (h : c.wp P (postR P fn R) { tmps := args ++ Array.replicate (fn.ntmps - args.size) undef, defers := [] } w) : Calls P f args w R :=
  (callsIn_wide (n := 5)).1 (callsIn_of_wp_marks hf hb trivial (wpIn_mono (wpIn_wide.2 h) fun e a w hq => by cases e <;> first | exact hq | exact hq.elim) rfl)

theorem postR_ret {P : Program} {fn : Func} {R : Ending → World → Prop} {a : Act} {w : World} {v : Value} (hr : (results fn a.tmps).run P w = .ok v w) (hd : a.defers = []) (hR : R (.returned v) w) : postR P fn R .ret a w := by
  show LeavesInM _ _ _ _ _ _ _ _ _
  rw [hd]; exact ⟨v, hr, hR⟩
theorem postR_mark {P : Program} {fn : Func} {R : Ending → World → Prop} {a : Act} {w : World} {v : Value} {D : Nat} (hk : w.heap[D]? = some (.deferred (some []))) (hd : a.defers = [{ target := .collected D, args := #[] }])
    (hr : (results fn a.tmps).run P (w.putObj D (.deferred none)) = .ok v (w.putObj D (.deferred none))) (hR : R (.returned v) (w.putObj D (.deferred none))) : postR P fn R .ret a w := by
  show LeavesInM _ _ _ _ _ _ _ _ _
  rw [hd]; exact ⟨by simp, .inl ⟨_, _, rfl, run_takeDeferred hk, ⟨v, hr, hR⟩⟩⟩

end Go.Proofs.YtnlmaildmeihgaaGreatDoor

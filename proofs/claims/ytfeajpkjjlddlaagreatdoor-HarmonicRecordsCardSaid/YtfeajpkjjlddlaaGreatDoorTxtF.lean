/- Iterators that write blocks named ahead (R: by the size of the heap at the loop's start). -/
import Derived.Test.YtfeajpkjjlddlaaGreatDoorBlk
import Derived.Test.YtfeajpkjjlddlaaGreatDoorTxtA
import Derived.BigRegionIn
import Derived.WideMake
import Derived.Test.YtfeajpkjjlddlaaGreatDoorHpF
import Derived.Lib.SplitLaws
namespace Go.Proofs.YtfeajpkjjlddlaaGreatDoor
section
set_option linter.unusedSimpArgs false
set_option linter.unusedVariables false
open Go.RowKit

section
variable {α : Type} {F : Fence} {n : Nat} {P : Program}

/-- what an iterator does with its yield: Rw tells which blocks it may write. -/
def SeqR (F : Fence) (n : Nat) (P : Program) (g : Nat) (lb : Array Value) (encs : α → Array Value) (X : List α → α → World → Prop) (Kp : World → World → Prop) (S Sp : List α → Prop) (Rw : Nat → Prop) (w : World) : Prop :=
  ∀ (l : Nat) (J Jx : List α → World → Prop) (W : World), Below w.heap.size w W →
    (∀ pre A B row, J pre A → A.grownBy B row → (∀ r, row = some r → Rw r) → J pre B) → (∀ pre A B, Jx pre A → A.grownBy B none → Jx pre B) →
    (∀ pre x W1, J pre W1 → X pre x W1 → YieldAt F (n - 1) P l (encs x) W1 fun e W' =>
      (e = .returned (.bool true) ∧ J (pre ++ [x]) W' ∧ Kp W1 W') ∨ (e = .returned (.bool false) ∧ Jx (pre ++ [x]) W')) →
    J [] W →
    CallsIn F n P g (#[.func (.yield l) #[] #[]] ++ lb) W fun e W' => (∃ v, e = .returned v) ∧ ((∃ xs, S xs ∧ J xs W') ∨ (∃ pre, Sp pre ∧ Jx pre W'))

theorem Books.growR {D : Nat} {R : LoopState → Option Code → Loop} {st : LoopState} {pe : Option Code} {A B : World} {row : Option Nat} (h : Books D R st pe A) (hg : A.grownBy B row) (hr : ∀ r, row = some r → r < D) : Books D R st pe B :=
  ⟨(hg.block _ (Array.getElem?_eq_some_iff.1 h.1).1 (fun e => by have := hr _ e.symm; omega)).trans h.1, (hg.block _ (Array.getElem?_eq_some_iff.1 h.2).1 (fun e => by have := hr _ e.symm; omega)).trans h.2⟩

theorem wpIn_rangeR {g : Operand} {ps : Array Tmp} {assign body : Code} {Q : Exit → Act → World → Prop} {a : Act} {w : World}
    (hro : F.round = none) (h1 : 1 ≤ n) {gf : Nat} {lb : Array Value} (hg : a.eval g = .func (.func gf) #[] lb) (hFg : F.fn gf) (eg : ∀ args w, (callFunc gf args).run P w = .ok (.enter gf args) w)
    {encs : α → Array Value} {X : List α → α → World → Prop} {Kp : World → World → Prop} {S Sp : List α → Prop} {Rw : Nat → Prop} {w0 : World} (hseq : SeqR F (n - 1) P gf lb encs X Kp S Sp Rw w0) (hRb : ∀ r, Rw r → r < w.heap.size)
    (hKt : ∀ {A B C : World}, Kp A B → Kp B C → Kp A C) (hKb : ∀ (W : World) (l : Nat) (o o' : Obj), w.heap.size ≤ l → W.heap[l]? = some o → o.isCells = false → o.isWalk = false → Kp W (W.putObj l o')) (hb0 : Below w0.heap.size w0 w) (hps : ∀ x, (encs x).size = ps.size)
    (I : List α → World → Prop) (Ix : Code → List α → World → Prop) (hI : OwnFrom w.heap.size I) (hIx : ∀ c, OwnFrom w.heap.size (Ix c)) (h0 : I [] w)
    (hIw : ∀ pre A B r, I pre A → A.grownBy B (some r) → Rw r → I pre B)
    (Ax : List α → α → Act → World → Prop) (hAx : ∀ pre x a', OwnFrom w.heap.size (fun (_ : Unit) W => Ax pre x a' W))
    (hassign : ∀ (l : Nat) (pre : List α) (x : α) (W : World) (K : Act → World → Prop), I pre W → X pre x W → (∀ a' W', KeepsFrom w.heap.size W W' → Kp W W' → I pre W' → Ax pre x a' W' → K a' W') →
      assign.wpIn (F.inRound l) (n - 1 - 1) P (Exit.then K (fun _ _ _ => False)) { tmps := (ps.zip (encs x)).foldl (fun t (p, v) => t.setIfInBounds p v) a.tmps, defers := [] } W)
    (hbody : ∀ (l : Nat) (pre : List α) (x : α) (a' : Act) (W : World), I pre W → Ax pre x a' W → body.wpIn (F.inRound l) (n - 1 - 1) P (ownPostG w.heap.size Kp I Ix (pre ++ [x]) W) a' W)
    (hdone : ∀ (D : Nat) (xs : List α) (W : World), w.heap.size ≤ D → S xs → I xs W → W.heap[D]? = some (.deferred (some [])) → Q .normal { a with defers := { target := .collected D, args := #[] } :: a.defers } W)
    (hstop : ∀ (D : Nat) (c : Code) (pre : List α) (W : World), w.heap.size ≤ D → Sp pre → Ix c pre W → W.heap[D]? = some (.deferred (some [])) → c.wpIn F n P Q { a with defers := { target := .collected D, args := #[] } :: a.defers } W) :
    (Code.rangeFunc g ps assign body).wpIn F n P Q a w := by
  refine wpIn_rangeFunc fun fn hfn => ?_
  rw [hro]
  obtain ⟨R, hR⟩ : ∃ R : LoopState → Option Code → Loop, ∀ st pe, R st pe = { state := st, pending := pe, fn, tmps := a.tmps, params := ps, assign, body, defers := w.heap.size } := ⟨_, fun _ _ => rfl⟩
  obtain ⟨V, hV⟩ : ∃ V, V = (w.alloc (.deferred (some []))).alloc (.loop (R .ready none)) := ⟨_, rfl⟩
  have hen := run_enterLoop_outer (P := P) (w := w) fn a.tmps ps assign body
  rw [← hR, ← hV] at hen
  have hbk : Books w.heap.size R .ready none V := by
    rw [hV]
    refine ⟨?_, (Below.heap_alloc _ _ _ (by simp)).trans (World.alloc_heap_new w _)⟩
    have := World.alloc_heap_new (w.alloc (.deferred (some []))) (.loop (R .ready none))
    rwa [World.size_alloc] at this
  have hbV : Below w0.heap.size w0 V := by
    rw [hV]; exact hb0.trans ((((Below.refl _ w).alloc (Nat.le_refl _) _).alloc (by simp) _).mono hb0.size)
  have hVs : V.heap.size = w.heap.size + 2 := by rw [hV]; simp
  have hIV : I [] V := by rw [hV]; exact hI.alloc _ (hI.alloc _ h0)
  refine ⟨_, _, V, { target := .fn (.func gf) lb, args := #[.func (.yield (w.heap.size + 1)) #[] #[]] }, V, gf, _, V, hen, by simp only [resolve, hg]; simp [go_sem], fun f' hf' => by simp [Target.leads] at hf'; subst hf'; exact hFg, by simp [invoke, go_sem, eg]; rfl, fun _ => h1, ?_⟩
  have turnI : ∀ {W : World} {pre : List α} {st st' : LoopState} {pe pe' : Option Code}, I pre W → Books w.heap.size R st pe W → I pre (W.putObj (w.heap.size + 1) (.loop (R st' pe'))) := fun hi hb => hI.putObj _ hi (by omega) hb.1 rfl
  have turnX : ∀ {W : World} {pre : List α} {c : Code} {st st' : LoopState} {pe pe' : Option Code}, Ix c pre W → Books w.heap.size R st pe W → Ix c pre (W.putObj (w.heap.size + 1) (.loop (R st' pe'))) := fun hi hb => (hIx _).putObj _ hi (by omega) hb.1 rfl
  have turnK : ∀ {W : World} {st st' : LoopState} {pe pe' : Option Code}, Books w.heap.size R st pe W → Kp W (W.putObj (w.heap.size + 1) (.loop (R st' pe'))) := fun hb => hKb _ _ _ _ (by omega) hb.1 rfl rfl
  refine (hseq (w.heap.size + 1) (fun pre W => I pre W ∧ Books w.heap.size R .ready none W) (fun pre W => ∃ c, Ix c pre W ∧ Books w.heap.size R .done (some c) W) V hbV
    (fun pre A B row h hg hr => ⟨by
      cases row with
      | none => exact hI pre A B none h.1 hg (fun r e => by cases e)
      | some r => exact hIw pre A B r h.1 hg (hr r rfl), h.2.growR hg (fun r e => hRb r (hr r e))⟩)
    (fun pre A B ⟨c, h, hb⟩ hg => ⟨c, hIx c pre A B none h hg (fun r e => by cases e), hb.grow hg (fun r e => by cases e)⟩) ?_ ⟨hIV, hbk⟩).mono ?_
  · rintro pre x W ⟨hi, hb⟩ hx
    have hy := run_yield (P := P) (args := encs x) hb.1 (by rw [hR]; exact hps x)
    simp only [hR] at hy
    refine ⟨fn, _, assign, body, hy, roundIn_of_wpIn hfn (hassign _ pre x W _ hi hx fun a' W' hkf hkp hi' hax => ?_)⟩
    have hb' := hb.from hkf
    have hbusy : Books w.heap.size R .busy none (W'.putObj (w.heap.size + 1) (.loop (R .busy none))) := hb'.turn
    have hbg := run_beginRound (P := P) hb'.1 (by rw [hR])
    have e1 : ({ R .ready none with state := .busy } : Loop) = R .busy none := by rw [hR, hR]
    rw [e1] at hbg
    refine ⟨_, hbg, wpIn_mono (hbody _ pre x a' _ (turnI hi' hb') ((hAx pre x a').putObj (s := ()) _ hax (by omega) hb'.1 rfl)) ?_⟩
    have fin : ∀ (jump : Option Code) (W3 : World), Books w.heap.size R .busy none W3 → (Instr.endRound (w.heap.size + 1) jump).run P W3 = .ok (.bool jump.isNone) (W3.putObj (w.heap.size + 1) (.loop (R (if jump.isNone then .ready else .done) jump))) := fun jump W3 h3 => by
      have := run_endRound (P := P) jump h3.1
      rw [this]; congr 3
      rw [hR, hR]
    have stop : ∀ (c : Code) (W3 : World), KeepsFrom w.heap.size (W'.putObj (w.heap.size + 1) (.loop (R .busy none))) W3 → Ix c (pre ++ [x]) W3 → ∃ v w', (Instr.endRound (w.heap.size + 1) (some c)).run P W3 = .ok v w' ∧
        ((Ending.returned v = .returned (.bool true) ∧ (I (pre ++ [x]) w' ∧ Books w.heap.size R .ready none w') ∧ Kp W w') ∨ (Ending.returned v = .returned (.bool false) ∧ ∃ c, Ix c (pre ++ [x]) w' ∧ Books w.heap.size R .done (some c) w')) := fun c W3 hk3 hi3 =>
      ⟨_, _, fin (some c) W3 (hbusy.from hk3), .inr ⟨rfl, c, turnX hi3 (hbusy.from hk3), (hbusy.from hk3).turn⟩⟩
    rintro e a3 W3 hp
    cases e with
    | normal =>
      obtain ⟨hk3, hkp3, hi3⟩ := hp
      exact ⟨_, _, fin none W3 (hbusy.from hk3), .inl ⟨rfl, ⟨turnI hi3 (hbusy.from hk3), (hbusy.from hk3).turn⟩, hKt hkp (hKt (turnK hb') (hKt hkp3 (turnK (hbusy.from hk3))))⟩⟩
    | ret => exact stop _ W3 hp.1 hp.2
    | exit id => exact stop _ W3 hp.1 hp.2
    | goto t => exact stop _ W3 hp.1 hp.2
    | panic ch => exact hp.elim
    | outgrown => exact hp.elim
  · have fin : ∀ (st : LoopState) (pe : Option Code) (W3 : World), st ≠ .busy → Books w.heap.size R st pe W3 → (Instr.endLoop (w.heap.size + 1)).run P W3 = .ok pe (W3.putObj (w.heap.size + 1) (.loop (R .exhausted pe))) := fun st pe W3 hst h3 => by
      have := run_endLoop (P := P) h3.1 (by rw [hR]; exact hst)
      rw [this]
      simp only [hR]
    rintro e W2 ⟨⟨v, rfl⟩, ⟨xs, hS, hi, hb⟩ | ⟨pre, hSp, c, hi, hb⟩⟩
    · exact ⟨none, _, fin _ _ _ (by simp) hb, hdone _ xs _ (Nat.le_refl _) hS (turnI hi hb) (hb.turn (st' := .exhausted) (pe' := none)).2⟩
    · exact ⟨some c, _, fin _ _ _ (by simp) hb, hstop _ c pre _ (Nat.le_refl _) hSp (turnX hi hb) (hb.turn (st' := .exhausted) (pe' := some c)).2⟩
end

theorem wp_rangeR {δ : Type} {P : Program} {g : Operand} {p s : Nat} {assign body : Code} {Q : Exit → Act → World → Prop} {a : Act} {w : World}
    {gf : Nat} {lb : Array Value} (hg : a.eval g = .func (.func gf) #[] lb) (eg : ∀ args w, (callFunc gf args).run P w = .ok (.enter gf args) w)
    {X : List (Value × δ) → Value × δ → World → Prop} {Kp : World → World → Prop} {S Sp : List (Value × δ) → Prop} {Rw : Nat → Prop} {w0 : World} (hseq : SeqR Fence.wide 4 P gf lb (fun x => #[x.1]) X Kp S Sp Rw w0) (hRb : ∀ r, Rw r → r < w.heap.size)
    (hKt : ∀ {A B C : World}, Kp A B → Kp B C → Kp A C) (hKb : ∀ (W : World) (l : Nat) (o o' : Obj), w.heap.size ≤ l → W.heap[l]? = some o → o.isCells = false → o.isWalk = false → Kp W (W.putObj l o')) (hKr : ∀ W, Kp W W) (hb0 : Below w0.heap.size w0 w)
    (I : List (Value × δ) → World → Prop) (Ix : Code → List (Value × δ) → World → Prop) (hI : OwnFrom w.heap.size I) (hIx : ∀ c, OwnFrom w.heap.size (Ix c)) (h0 : I [] w)
    (hIw : ∀ pre A B r, I pre A → A.grownBy B (some r) → Rw r → I pre B)
    (hX : ∀ pre, OwnFrom w.heap.size (X pre))
    (hassign : ∀ (l : Nat) (v : Value) (W : World) (K : Act → World → Prop), K { tmps := (a.tmps.setIfInBounds p v).setIfInBounds s v, defers := [] } W →
      assign.wpIn (Fence.wide.inRound l) 3 P (Exit.then K (fun _ _ _ => False)) { tmps := a.tmps.setIfInBounds p v, defers := [] } W)
    (hbody : ∀ (l : Nat) (pre : List (Value × δ)) (x : Value × δ) (W : World), I pre W → X pre x W → body.wpIn (Fence.wide.inRound l) 3 P (ownPostG w.heap.size Kp I Ix (pre ++ [x]) W) { tmps := (a.tmps.setIfInBounds p x.1).setIfInBounds s x.1, defers := [] } W)
    (hdone : ∀ (D : Nat) (xs : List (Value × δ)) (W : World), w.heap.size ≤ D → S xs → I xs W → W.heap[D]? = some (.deferred (some [])) → Q .normal { a with defers := { target := .collected D, args := #[] } :: a.defers } W)
    (hstop : ∀ (D : Nat) (c : Code) (pre : List (Value × δ)) (W : World), w.heap.size ≤ D → Sp pre → Ix c pre W → W.heap[D]? = some (.deferred (some [])) → c.wp P Q { a with defers := { target := .collected D, args := #[] } :: a.defers } W) :
    (Code.rangeFunc g #[p] assign body).wp P Q a w :=
  (wpIn_wide (n := 5)).1 (wpIn_rangeR rfl (by omega) hg trivial eg hseq hRb hKt hKb hb0 (fun _ => rfl) I Ix hI hIx h0 hIw
    (fun pre x a' W => a' = { tmps := (a.tmps.setIfInBounds p x.1).setIfInBounds s x.1, defers := [] } ∧ X pre x W) (fun pre x a' _ A B row hs hg hr => ⟨hs.1, hX pre x A B row hs.2 hg hr⟩)
    (fun l pre x W K hi hx hK => by
      have e : ((#[p].zip #[x.1]).foldl (fun t (p, v) => t.setIfInBounds p v) a.tmps) = a.tmps.setIfInBounds p x.1 := by simp
      rw [e]; exact hassign l x.1 W K (hK _ _ (KeepsFrom.refl _ _) (hKr W) hi ⟨rfl, hx⟩))
    (fun l pre x a' W hi ⟨e, hx⟩ => by subst e; exact hbody l pre x W hi hx) hdone (fun D c pre W h1 h2 h3 h4 => wpIn_wide.2 (hstop D c pre W h1 h2 h3 h4)))
end

section
set_option linter.unusedSimpArgs false
set_option linter.unusedVariables false
open Go.RowKit

attribute [local go_sem] Oper.semAt_some
def strAt (W : World) (B : Nat) : Nat := match W.cell? ⟨B, 0, none⟩ with
  | some (.string s) => s.size
  | _ => 0
/-- the text that is left lies in its block. -/
def Left (W : World) (B : Nat) (l : List UInt8) : Prop := Blk W B 9 [strV l]
theorem set_grown_drew {W : World} {B : Nat} {T : TypeId} {vs : List Value} (h : Blk W B T vs) (x : Value) : W.grownBy (W.setCell ⟨B, 0, none⟩ x).drew (some B) :=
  ⟨rfl, rfl, rfl, by simp [World.drew], fun k _ hk => Below.heap_setCell _ _ _ _ (fun e => hk (by simp [e]))⟩
theorem set_grown {W : World} {B : Nat} {T : TypeId} {vs : List Value} (h : Blk W B T vs) (x : Value) : W.grownBy (W.setCell ⟨B, 0, none⟩ x) (some B) :=
  ⟨rfl, rfl, rfl, by simp, fun k _ hk => Below.heap_setCell _ _ _ _ (fun e => hk (by simp [e]))⟩
end

section
set_option linter.unusedSimpArgs false
set_option linter.unusedVariables false
open Go.RowKit

theorem beq_data (a b : ByteArray) : (a == b) = decide (a = b) := by
  obtain ⟨x⟩ := a
  obtain ⟨y⟩ := b
  show (x == y) = _
  by_cases h : x = y
  · subst h; simp
  · rw [beq_eq_false_iff_ne.2 h]
    exact (decide_eq_false (fun e => h (ByteArray.mk.inj e))).symm
/-- what a map of one entry answers. -/
theorem lookup_one {P : Program} {w : World} {t kt et : TypeId} (hm : P.underlying t = some (.map kt et)) (hk : P.underlying kt = some .string) {r born clock : Nat} {s0 : ByteArray} {val z : Value}
    (hb : w.heap[r]? = some (.map #[{ key := .string s0, val := val, born := born }] clock)) (hz : (zeroValue et).run P w = .ok z w) (k : ByteArray) :
    (Instr.lookup t (.map (some r)) (.string k) true).run P w = .ok (if k = s0 then .tuple #[val, .bool true] else .tuple #[z, .bool false]) w := by
  have hc : (Instr.checkKey false 10000 kt (.string k)).run P w = .ok () w := MapKept.run_checkKey (k := .string k) hk (by simp [MapKept.IsKey]) false 9999
  by_cases h : k = s0
  · subst h
    have hf : Instr.findNow .string (.string k) [{ key := .string k, val := val, born := born }] 0 = some (some (0, val)) := by simp [Instr.findNow, Instr.sameNow, beq_data]
    simp [Instr.lookup, run_underlying hm, MapKept.run_getObj_map hb, hc, MapKept.run_findKey hk hf, Result.andThen]
  · have hf : Instr.findNow .string (.string k) [{ key := .string s0, val := val, born := born }] 0 = some none := by simp [Instr.findNow, Instr.sameNow, beq_data, h]
    simp [Instr.lookup, run_underlying hm, MapKept.run_getObj_map hb, hc, MapKept.run_findKey hk hf, Result.andThen, hz, h]
def branchB : ByteArray := ⟨#[98, 114, 97, 110, 99, 104]⟩
end

section
set_option linter.unusedSimpArgs false
set_option linter.unusedVariables false
open Go.RowKit

theorem ownsRow_neB {W : World} {base : Nat} {e : TypeId} {size : Nat} {v : Value} {k : Nat} {xs : List Value} (h : W.ownsRow base e size v k xs) {j : Nat} {T : TypeId} {vs : List Value} (hj : Blk W j T vs) (hT : T ≠ e) : v.ownBlock ≠ some j := by
  intro hb
  rcases h.2 with ⟨rfl, _⟩ | ⟨g, cap, cur, rfl, _, hg, _⟩
  · simp [Value.ownBlock] at hb
  · obtain rfl : g = j := by simpa [Value.ownBlock] using hb
    have := hg.symm.trans hj
    simp at this
    exact hT this.2.symm
theorem ownsRow_sl {w : World} {base e size n : Nat} {v : Value} {xs : List Value} (h : w.ownsRow base e size v n xs) : ∃ a cap, v = .slice a n cap := by
  rcases h.2 with ⟨rfl, rfl⟩ | ⟨g, cap, cur, rfl, _⟩
  · exact ⟨_, _, rfl⟩
  · exact ⟨_, _, rfl⟩
theorem ownsRow_setO {w : World} {base e size n B j : Nat} {v x : Value} {xs : List Value} (h : w.ownsRow base e size v n xs) (hB : B < base) : (w.setCell ⟨B, j, none⟩ x).ownsRow base e size v n xs := by
  obtain ⟨h1, h2⟩ := h
  refine ⟨h1, ?_⟩
  rcases h2 with h2 | ⟨g, cap, cur, hv, hg, hh, r⟩
  · exact Or.inl h2
  · exact Or.inr ⟨g, cap, cur, hv, hg, (Below.heap_setCell _ _ _ _ (by simp; omega)).trans hh, r⟩
theorem ownsRow_cells {W : World} {base : Nat} {e : TypeId} {size : Nat} {v : Value} {k : Nat} {xs : List Value} (h : W.ownsRow base e size v k xs) {j : Nat} {o : Obj} (hj : v.ownBlock = some j) (ho : W.heap[j]? = some o) : o.isCells = true := by
  rcases h.2 with ⟨rfl, _⟩ | ⟨g, cap, cur, rfl, _, hg, _⟩
  · simp [Value.ownBlock] at hj
  · obtain rfl : g = j := by simpa [Value.ownBlock] using hj
    have := hg.symm.trans ho
    cases this
    rfl
theorem below_gr {H : Nat} {A B : World} {row : Option Nat} (hg : A.grownBy B row) (hr : ∀ r, row = some r → H ≤ r) (hs : H ≤ A.heap.size) : Below H A B :=
  ⟨hg.1, hg.2, hg.3, hg.size, fun k hk => hg.block k (by omega) (fun e => by have := hr k e.symm; omega)⟩
theorem flat2_snoc (l : List (Int × Int)) (a b : Int) : flat2 (l ++ [(a, b)]) = flat2 l ++ [a, b] := by simp [flat2]
/-- what two numbers taken tell. -/
def twoW (ws : List (List UInt8)) : Bool := okW ws && okW (ws.drop 1)
end

section
set_option linter.unusedSimpArgs false
set_option linter.unusedVariables false
open Go.RowKit

def MaxL (W : World) : Prop := ∃ m, W.cell? ⟨2, 0, none⟩ = some (.int .i64 m)
theorem MaxL.carry {W W' : World} (h : MaxL W) (hb : Below W.heap.size W W') : MaxL W' := by
  obtain ⟨m, hm⟩ := h
  exact ⟨m, cellb hm hb⟩
def endsL (l : List UInt8) : Bool := l.getLast? == some 10
def bodyL (l : List UInt8) : List UInt8 := if endsL l = true then l.dropLast else l
theorem suffix_one (l : List UInt8) : Lib.hasSuffix l [10] = endsL l := by
  unfold endsL
  show List.isSuffixOf [10] l = _
  rcases List.eq_nil_or_concat l with rfl | ⟨a, b, rfl⟩
  · rfl
  · rw [List.concat_eq_append, List.getLast?_concat]
    by_cases h : b = 10
    · subst h
      rw [List.isSuffixOf_iff_suffix.2 (List.suffix_append a [10])]
      rfl
    · have h1 : ¬ ([10] : List UInt8) <:+ a ++ [b] := fun ⟨t, ht⟩ => by
        have := (List.append_inj' ht rfl).2
        simp at this
        exact h this.symm
      rw [show List.isSuffixOf [10] (a ++ [b]) = false by rw [Bool.eq_false_iff]; exact fun e => h1 (List.isSuffixOf_iff_suffix.1 e)]
      simp [h]
theorem trim_one (l : List UInt8) : Lib.trimSuffix l [10] = bodyL l := by
  unfold Lib.trimSuffix bodyL
  rw [suffix_one]
  by_cases h : endsL l = true
  · rw [if_pos h, if_pos h, List.dropLast_eq_take]; rfl
  · rw [if_neg h, if_neg h]
theorem pieces_one (l : List UInt8) : (Lib.splitB ⟨#[32]⟩ 0 (Lib.countB ⟨l.toArray⟩ ⟨#[32]⟩) ⟨l.toArray⟩).map Value.string = (splitC 32 l).map strV := by
  have h := Lib.splitB_data ⟨#[32]⟩ 0 (Lib.countB ⟨l.toArray⟩ ⟨#[32]⟩) ⟨l.toArray⟩
  have h2 : Lib.splitK [32] 0 (Lib.countB ⟨l.toArray⟩ ⟨#[32]⟩) l = splitC 32 l := split_one 32 l
  rw [show Lib.splitK (⟨#[32]⟩ : ByteArray).data.toList 0 (Lib.countB ⟨l.toArray⟩ ⟨#[32]⟩) (⟨l.toArray⟩ : ByteArray).data.toList = splitC 32 l from h2] at h
  rw [← h, List.map_map]
  apply List.map_congr_left
  intro b _
  show Value.string b = strV b.data.toList
  exact congrArg Value.string (baEq rfl)
theorem Vals.of_blk {W : World} {B : Nat} {T : TypeId} {us : List Value} (h : Blk W B T us) : Vals W (.slice (some ⟨B, 0, none⟩) us.length us.length) us :=
  ⟨some ⟨B, 0, none⟩, us.length, rfl, Nat.le_refl _, fun _ => ⟨B, 0, rfl, fun j u hj => by rw [Nat.zero_add]; exact h.cell hj⟩⟩
/-- a line is one of a branch. -/
theorem lineP_of (l : List UInt8) : lineP l = if endsL l = true then brW (splitC 32 (bodyL l)) else none := by
  unfold lineP bodyL endsL
  by_cases h : l.getLast? = some 10
  · rw [if_pos h, if_pos (by simp [h])]
    rw [if_pos (by simp [h])]
  · rw [if_neg h, if_neg (by simp [h])]
theorem blk_own {W W' : World} {row : Option Nat} {k : Nat} {T : TypeId} {vs : List Value} (hb : Blk W k T vs) (hg : W.grownBy W' row) (hr : ∀ r, row = some r → r ≠ k) : Blk W' k T vs :=
  (hg.block k (Array.getElem?_eq_some_iff.1 hb).1 (fun e => hr k e.symm rfl)).trans hb
theorem own_own {W W' : World} {row : Option Nat} {base e size n : Nat} {v : Value} {xs : List Value} (ho : W.ownsRow base e size v n xs) (hg : W.grownBy W' row) (hr : ∀ r g, row = some r → v.ownBlock = some g → r ≠ g) : W'.ownsRow base e size v n xs := by
  obtain ⟨h1, h2⟩ := ho
  refine ⟨h1, ?_⟩
  rcases h2 with h2 | ⟨g, cap, cur, hv, hg', hh, r⟩
  · exact Or.inl h2
  · exact Or.inr ⟨g, cap, cur, hv, hg', (hg.block g (Array.getElem?_eq_some_iff.1 hh).1 (fun e => hr g g e.symm (by rw [hv]; rfl) rfl)).trans hh, r⟩
theorem ne_of_blk {W : World} {k r : Nat} {T : TypeId} {vs : List Value} (hb : Blk W k T vs) (hr : ∃ o : Obj, W.heap[r]? = some o ∧ o.isCells = false) : r ≠ k := by
  rintro rfl
  obtain ⟨o, ho, hc⟩ := hr
  have := hb.symm.trans ho
  cases this
  cases hc
/-- what holds as the lines so far are read. -/
def PInv (w : World) (pre : List (Value × List UInt8)) (W : World) : Prop :=
  (∀ x ∈ pre, lineP x.2 ≠ none) ∧ Blk W w.heap.size 75 [.slice none 0 0] ∧ Blk W (w.heap.size + 1) 3 [.int .i64 0] ∧ Blk W (w.heap.size + 2) 31 [.int .i64 0] ∧
    Blk W (w.heap.size + 4) 3 [.int .i64 (pre.length : Int)] ∧ (∃ fv, Blk W (w.heap.size + 3) 75 [fv] ∧
      W.ownsRow (w.heap.size + 6) 129 2 fv (brsOf (pre.map Prod.snd)).length ((flat2 (brsOf (pre.map Prod.snd))).map (Value.int .i64))) ∧ Below w.heap.size w W ∧ w.heap.size + 6 ≤ W.heap.size
/-- what a wrong line leaves. -/
def PEx (w : World) (c : Code) (pre : List (Value × List UInt8)) (W : World) : Prop :=
  (c = .ret ∧ ∃ pre' x, pre = pre' ++ [x] ∧ (∀ y ∈ pre', lineP y.2 ≠ none) ∧ lineP x.2 = none) ∧ Blk W w.heap.size 75 [.slice none 0 0] ∧ Blk W (w.heap.size + 1) 3 [.int .i64 ((pre.length - 1 : Nat) : Int)] ∧
    Blk W (w.heap.size + 2) 31 [.int .i64 25] ∧ Below w.heap.size w W
theorem below_grown {H : Nat} {w A B : World} {row : Option Nat} (h : Below H w A) (hg : A.grownBy B row) (hr : ∀ r, row = some r → H ≤ r) (hs : H ≤ w.heap.size) : Below H w B :=
  h.trans ⟨hg.1, hg.2, hg.3, hg.size, fun k hk => hg.block k (by have := h.size; omega) (fun e => by have := hr k e.symm; omega)⟩
theorem PInv.own (w : World) {H : Nat} (hH : w.heap.size ≤ H) : OwnFrom H (PInv w) := by
  rintro pre A B row ⟨h1, h2, h3, h4, h5, ⟨fv, h6, h7⟩, h8, h9⟩ hg hr
  have hb : ∀ {k : Nat} {T : TypeId} {vs : List Value}, Blk A k T vs → Blk B k T vs := fun hk => blk_own hk hg (fun r e => ne_of_blk hk (hr r e).2)
  exact ⟨h1, hb h2, hb h3, hb h4, hb h5, ⟨fv, hb h6, own_own h7 hg (fun r g e hv e2 => by
    obtain ⟨_, o, ho, hc⟩ := hr r e
    subst e2
    have := ownsRow_cells h7 hv ho
    rw [hc] at this; cases this)⟩, below_grown h8 hg (fun r e => by have := (hr r e).1; omega) (Nat.le_refl _), Nat.le_trans h9 hg.size⟩
theorem PInv.write (w : World) (pre : List (Value × List UInt8)) (A B : World) (h : PInv w pre A) (hg : A.grownBy B (some (w.heap.size + 5))) : PInv w pre B := by
  obtain ⟨h1, h2, h3, h4, h5, ⟨fv, h6, h7⟩, h8, h9⟩ := h
  have hb : ∀ {k : Nat} {T : TypeId} {vs : List Value}, Blk A k T vs → w.heap.size + 5 ≠ k → Blk B k T vs := fun hk hn => blk_own hk hg (fun r e => by cases e; exact hn)
  exact ⟨h1, hb h2 (by omega), hb h3 (by omega), hb h4 (by omega), hb h5 (by omega), ⟨fv, hb h6 (by omega), own_own h7 hg (fun r g e hv e2 => by
    cases e
    have := (h7.lt g hv).1
    omega)⟩, below_grown h8 hg (fun r e => by cases e; omega) (Nat.le_refl _), Nat.le_trans h9 hg.size⟩
theorem PEx.own (w : World) {H : Nat} (hH : w.heap.size ≤ H) (c : Code) : OwnFrom H (PEx w c) := by
  rintro pre A B row ⟨h1, h2, h3, h4, h8⟩ hg hr
  have hb : ∀ {k : Nat} {T : TypeId} {vs : List Value}, Blk A k T vs → Blk B k T vs := fun hk => blk_own hk hg (fun r e => ne_of_blk hk (hr r e).2)
  exact ⟨h1, hb h2, hb h3, hb h4, below_grown h8 hg (fun r e => by have := (hr r e).1; omega) (Nat.le_refl _)⟩
end

end Go.Proofs.YtfeajpkjjlddlaaGreatDoor

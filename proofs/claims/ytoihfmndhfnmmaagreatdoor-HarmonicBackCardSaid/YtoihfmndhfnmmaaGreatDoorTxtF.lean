/- Iterators that write blocks named ahead (R: by the size of the heap at the loop's start). -/
import Derived.Test.YtoihfmndhfnmmaaGreatDoorBlk
import Derived.Test.YtoihfmndhfnmmaaGreatDoorTxtA
import Derived.BigRegionIn
import Derived.WideMake
import Derived.Test.YtoihfmndhfnmmaaGreatDoorHpF
import Derived.Lib.SplitLaws
namespace Go.Proofs.YtoihfmndhfnmmaaGreatDoor
section
set_option linter.unusedSimpArgs false
set_option linter.unusedVariables false
open Go.RowKit

section
variable {α : Type} {F : Fence} {n : Nat} {P : Program}

/-- what an iterator does with its yield: Rw tells which blocks it may write. -/
def SeqR (F : Fence) (n : Nat) (P : Program) (g : Nat) (lb : Array Value) (encs : α → Array Value) (X : List α → α → World → Prop) (Kp : World → World → Prop) (S Sp : List α → Prop) (Rw : Nat → Prop) (w : World) : Prop :=
  ∀ (l : Nat) (J Jx : List α → World → Prop) (W : World), Below w.heap.size w W →
    (∀ pre A B row, J pre A → A.grownBy B row → (∀ r, row = some r → Rw r) → J pre B) → (∀ pre A B, Jx pre A → A.grownBy B none → Jx pre B) →
    (∀ pre x W1, J pre W1 → X pre x W1 → YieldAt F (n - 1) P l (encs x) W1 fun e W' =>
      (e = .returned (.bool true) ∧ J (pre ++ [x]) W' ∧ Kp W1 W') ∨ (e = .returned (.bool false) ∧ Jx (pre ++ [x]) W')) →
    J [] W →
    CallsIn F n P g (#[.func (.yield l) #[] #[]] ++ lb) W fun e W' => (∃ v, e = .returned v) ∧ ((∃ xs, S xs ∧ J xs W') ∨ (∃ pre, Sp pre ∧ Jx pre W'))

theorem Books.growR {D : Nat} {R : LoopState → Option Code → Loop} {st : LoopState} {pe : Option Code} {A B : World} {row : Option Nat} (h : Books D R st pe A) (hg : A.grownBy B row) (hr : ∀ r, row = some r → r < D) : Books D R st pe B :=
  ⟨(hg.block _ (Array.getElem?_eq_some_iff.1 h.1).1 (fun e => by have := hr _ e.symm; omega)).trans h.1, (hg.block _ (Array.getElem?_eq_some_iff.1 h.2).1 (fun e => by have := hr _ e.symm; omega)).trans h.2⟩

theorem wpIn_rangeR {g : Operand} {ps : Array Tmp} {assign body : Code} {Q : Exit → Act → World → Prop} {a : Act} {w : World}
    (hro : F.round = none) (h1 : 1 ≤ n) {gf : Nat} {lb : Array Value} (hg : a.eval g = .func (.func gf) #[] lb) (hFg : F.fn gf) (eg : ∀ args w, (callFunc gf args).run P w = .ok (.enter gf args) w)
    {encs : α → Array Value} {X : List α → α → World → Prop} {Kp : World → World → Prop} {S Sp : List α → Prop} {Rw : Nat → Prop} {w0 : World} (hseq : SeqR F (n - 1) P gf lb encs X Kp S Sp Rw w0) (hRb : ∀ r, Rw r → r < w.heap.size)
    (hKt : ∀ {A B C : World}, Kp A B → Kp B C → Kp A C) (hKb : ∀ (W : World) (l : Nat) (o o' : Obj), w.heap.size ≤ l → W.heap[l]? = some o → o.isCells = false → o.isWalk = false → Kp W (W.putObj l o')) (hb0 : Below w0.heap.size w0 w) (hps : ∀ x, (encs x).size = ps.size)
    (I : List α → World → Prop) (Ix : Code → List α → World → Prop) (hI : OwnFrom w.heap.size I) (hIx : ∀ c, OwnFrom w.heap.size (Ix c)) (h0 : I [] w)
    (hIw : ∀ pre A B r, I pre A → A.grownBy B (some r) → Rw r → I pre B)
    (Ax : List α → α → Act → World → Prop) (hAx : ∀ pre x a', OwnFrom w.heap.size (fun (_ : Unit) W => Ax pre x a' W))
    (hassign : ∀ (l : Nat) (pre : List α) (x : α) (W : World) (K : Act → World → Prop), I pre W → X pre x W → (∀ a' W', KeepsFrom w.heap.size W W' → Kp W W' → I pre W' → Ax pre x a' W' → K a' W') →
      assign.wpIn (F.inRound l) (n - 1 - 1) P (Exit.then K (fun _ _ _ => False)) { tmps := (ps.zip (encs x)).foldl (fun t (p, v) => t.setIfInBounds p v) a.tmps, defers := [] } W)
    (hbody : ∀ (l : Nat) (pre : List α) (x : α) (a' : Act) (W : World), I pre W → Ax pre x a' W → body.wpIn (F.inRound l) (n - 1 - 1) P (ownPostG w.heap.size Kp I Ix (pre ++ [x]) W) a' W)
    (hdone : ∀ (D : Nat) (xs : List α) (W : World), w.heap.size ≤ D → S xs → I xs W → W.heap[D]? = some (.deferred (some [])) → Q .normal { a with defers := { target := .collected D, args := #[] } :: a.defers } W)
    (hstop : ∀ (D : Nat) (c : Code) (pre : List α) (W : World), w.heap.size ≤ D → Sp pre → Ix c pre W → W.heap[D]? = some (.deferred (some [])) → c.wpIn F n P Q { a with defers := { target := .collected D, args := #[] } :: a.defers } W) :
    (Code.rangeFunc g ps assign body).wpIn F n P Q a w := by
  refine wpIn_rangeFunc fun fn hfn => ?_
  rw [hro]
  obtain ⟨R, hR⟩ : ∃ R : LoopState → Option Code → Loop, ∀ st pe, R st pe = { state := st, pending := pe, fn, tmps := a.tmps, params := ps, assign, body, defers := w.heap.size } := ⟨_, fun _ _ => rfl⟩
  obtain ⟨V, hV⟩ : ∃ V, V = (w.alloc (.deferred (some []))).alloc (.loop (R .ready none)) := ⟨_, rfl⟩
  have hen := run_enterLoop_outer (P := P) (w := w) fn a.tmps ps assign body
  rw [← hR, ← hV] at hen
  have hbk : Books w.heap.size R .ready none V := by
    rw [hV]
    refine ⟨?_, (Below.heap_alloc _ _ _ (by simp)).trans (World.alloc_heap_new w _)⟩
    have := World.alloc_heap_new (w.alloc (.deferred (some []))) (.loop (R .ready none))
    rwa [World.size_alloc] at this
  have hbV : Below w0.heap.size w0 V := by
    rw [hV]; exact hb0.trans ((((Below.refl _ w).alloc (Nat.le_refl _) _).alloc (by simp) _).mono hb0.size)
  have hVs : V.heap.size = w.heap.size + 2 := by rw [hV]; simp
  have hIV : I [] V := by rw [hV]; exact hI.alloc _ (hI.alloc _ h0)
  refine ⟨_, _, V, { target := .fn (.func gf) lb, args := #[.func (.yield (w.heap.size + 1)) #[] #[]] }, V, gf, _, V, hen, by simp only [resolve, hg]; simp [go_sem], fun f' hf' => by simp [Target.leads] at hf'; subst hf'; exact hFg, by simp [invoke, go_sem, eg]; rfl, fun _ => h1, ?_⟩
  have turnI : ∀ {W : World} {pre : List α} {st st' : LoopState} {pe pe' : Option Code}, I pre W → Books w.heap.size R st pe W → I pre (W.putObj (w.heap.size + 1) (.loop (R st' pe'))) := fun hi hb => hI.putObj _ hi (by omega) hb.1 rfl
  have turnX : ∀ {W : World} {pre : List α} {c : Code} {st st' : LoopState} {pe pe' : Option Code}, Ix c pre W → Books w.heap.size R st pe W → Ix c pre (W.putObj (w.heap.size + 1) (.loop (R st' pe'))) := fun hi hb => (hIx _).putObj _ hi (by omega) hb.1 rfl
  have turnK : ∀ {W : World} {st st' : LoopState} {pe pe' : Option Code}, Books w.heap.size R st pe W → Kp W (W.putObj (w.heap.size + 1) (.loop (R st' pe'))) := fun hb => hKb _ _ _ _ (by omega) hb.1 rfl rfl
  refine (hseq (w.heap.size + 1) (fun pre W => I pre W ∧ Books w.heap.size R .ready none W) (fun pre W => ∃ c, Ix c pre W ∧ Books w.heap.size R .done (some c) W) V hbV
    (fun pre A B row h hg hr => ⟨by
      cases row with
      | none => exact hI pre A B none h.1 hg (fun r e => by cases e)
      | some r => exact hIw pre A B r h.1 hg (hr r rfl), h.2.growR hg (fun r e => hRb r (hr r e))⟩)
    (fun pre A B ⟨c, h, hb⟩ hg => ⟨c, hIx c pre A B none h hg (fun r e => by cases e), hb.grow hg (fun r e => by cases e)⟩) ?_ ⟨hIV, hbk⟩).mono ?_
  · rintro pre x W ⟨hi, hb⟩ hx
    have hy := run_yield (P := P) (args := encs x) hb.1 (by rw [hR]; exact hps x)
    simp only [hR] at hy
    refine ⟨fn, _, assign, body, hy, roundIn_of_wpIn hfn (hassign _ pre x W _ hi hx fun a' W' hkf hkp hi' hax => ?_)⟩
    have hb' := hb.from hkf
    have hbusy : Books w.heap.size R .busy none (W'.putObj (w.heap.size + 1) (.loop (R .busy none))) := hb'.turn
    have hbg := run_beginRound (P := P) hb'.1 (by rw [hR])
    have e1 : ({ R .ready none with state := .busy } : Loop) = R .busy none := by rw [hR, hR]
    rw [e1] at hbg
    refine ⟨_, hbg, wpIn_mono (hbody _ pre x a' _ (turnI hi' hb') ((hAx pre x a').putObj (s := ()) _ hax (by omega) hb'.1 rfl)) ?_⟩
    have fin : ∀ (jump : Option Code) (W3 : World), Books w.heap.size R .busy none W3 → (Instr.endRound (w.heap.size + 1) jump).run P W3 = .ok (.bool jump.isNone) (W3.putObj (w.heap.size + 1) (.loop (R (if jump.isNone then .ready else .done) jump))) := fun jump W3 h3 => by
      have := run_endRound (P := P) jump h3.1
      rw [this]; congr 3
      rw [hR, hR]
    have stop : ∀ (c : Code) (W3 : World), KeepsFrom w.heap.size (W'.putObj (w.heap.size + 1) (.loop (R .busy none))) W3 → Ix c (pre ++ [x]) W3 → ∃ v w', (Instr.endRound (w.heap.size + 1) (some c)).run P W3 = .ok v w' ∧
        ((Ending.returned v = .returned (.bool true) ∧ (I (pre ++ [x]) w' ∧ Books w.heap.size R .ready none w') ∧ Kp W w') ∨ (Ending.returned v = .returned (.bool false) ∧ ∃ c, Ix c (pre ++ [x]) w' ∧ Books w.heap.size R .done (some c) w')) := fun c W3 hk3 hi3 =>
      ⟨_, _, fin (some c) W3 (hbusy.from hk3), .inr ⟨rfl, c, turnX hi3 (hbusy.from hk3), (hbusy.from hk3).turn⟩⟩
    rintro e a3 W3 hp
    cases e with
    | normal =>
      obtain ⟨hk3, hkp3, hi3⟩ := hp
      exact ⟨_, _, fin none W3 (hbusy.from hk3), .inl ⟨rfl, ⟨turnI hi3 (hbusy.from hk3), (hbusy.from hk3).turn⟩, hKt hkp (hKt (turnK hb') (hKt hkp3 (turnK (hbusy.from hk3))))⟩⟩
    | ret => exact stop _ W3 hp.1 hp.2
    | exit id => exact stop _ W3 hp.1 hp.2
    | goto t => exact stop _ W3 hp.1 hp.2
    | panic ch => exact hp.elim
    | outgrown => exact hp.elim
  · have fin : ∀ (st : LoopState) (pe : Option Code) (W3 : World), st ≠ .busy → Books w.heap.size R st pe W3 → (Instr.endLoop (w.heap.size + 1)).run P W3 = .ok pe (W3.putObj (w.heap.size + 1) (.loop (R .exhausted pe))) := fun st pe W3 hst h3 => by
      have := run_endLoop (P := P) h3.1 (by rw [hR]; exact hst)
      rw [this]
      simp only [hR]
    rintro e W2 ⟨⟨v, rfl⟩, ⟨xs, hS, hi, hb⟩ | ⟨pre, hSp, c, hi, hb⟩⟩
    · exact ⟨none, _, fin _ _ _ (by simp) hb, hdone _ xs _ (Nat.le_refl _) hS (turnI hi hb) (hb.turn (st' := .exhausted) (pe' := none)).2⟩
    · exact ⟨some c, _, fin _ _ _ (by simp) hb, hstop _ c pre _ (Nat.le_refl _) hSp (turnX hi hb) (hb.turn (st' := .exhausted) (pe' := some c)).2⟩
end

theorem wp_rangeR {δ : Type} {P : Program} {g : Operand} {p s : Nat} {assign body : Code} {Q : Exit → Act → World → Prop} {a : Act} {w : World}
    {gf : Nat} {lb : Array Value} (hg : a.eval g = .func (.func gf) #[] lb) (eg : ∀ args w, (callFunc gf args).run P w = .ok (.enter gf args) w)
    {X : List (Value × δ) → Value × δ → World → Prop} {Kp : World → World → Prop} {S Sp : List (Value × δ) → Prop} {Rw : Nat → Prop} {w0 : World} (hseq : SeqR Fence.wide 4 P gf lb (fun x => #[x.1]) X Kp S Sp Rw w0) (hRb : ∀ r, Rw r → r < w.heap.size)
    (hKt : ∀ {A B C : World}, Kp A B → Kp B C → Kp A C) (hKb : ∀ (W : World) (l : Nat) (o o' : Obj), w.heap.size ≤ l → W.heap[l]? = some o → o.isCells = false → o.isWalk = false → Kp W (W.putObj l o')) (hKr : ∀ W, Kp W W) (hb0 : Below w0.heap.size w0 w)
    (I : List (Value × δ) → World → Prop) (Ix : Code → List (Value × δ) → World → Prop) (hI : OwnFrom w.heap.size I) (hIx : ∀ c, OwnFrom w.heap.size (Ix c)) (h0 : I [] w)
    (hIw : ∀ pre A B r, I pre A → A.grownBy B (some r) → Rw r → I pre B)
    (hX : ∀ pre, OwnFrom w.heap.size (X pre))
    (hassign : ∀ (l : Nat) (v : Value) (W : World) (K : Act → World → Prop), K { tmps := (a.tmps.setIfInBounds p v).setIfInBounds s v, defers := [] } W →
      assign.wpIn (Fence.wide.inRound l) 3 P (Exit.then K (fun _ _ _ => False)) { tmps := a.tmps.setIfInBounds p v, defers := [] } W)
    (hbody : ∀ (l : Nat) (pre : List (Value × δ)) (x : Value × δ) (W : World), I pre W → X pre x W → body.wpIn (Fence.wide.inRound l) 3 P (ownPostG w.heap.size Kp I Ix (pre ++ [x]) W) { tmps := (a.tmps.setIfInBounds p x.1).setIfInBounds s x.1, defers := [] } W)
    (hdone : ∀ (D : Nat) (xs : List (Value × δ)) (W : World), w.heap.size ≤ D → S xs → I xs W → W.heap[D]? = some (.deferred (some [])) → Q .normal { a with defers := { target := .collected D, args := #[] } :: a.defers } W)
    (hstop : ∀ (D : Nat) (c : Code) (pre : List (Value × δ)) (W : World), w.heap.size ≤ D → Sp pre → Ix c pre W → W.heap[D]? = some (.deferred (some [])) → c.wp P Q { a with defers := { target := .collected D, args := #[] } :: a.defers } W) :
    (Code.rangeFunc g #[p] assign body).wp P Q a w :=
  (wpIn_wide (n := 5)).1 (wpIn_rangeR rfl (by omega) hg trivial eg hseq hRb hKt hKb hb0 (fun _ => rfl) I Ix hI hIx h0 hIw
    (fun pre x a' W => a' = { tmps := (a.tmps.setIfInBounds p x.1).setIfInBounds s x.1, defers := [] } ∧ X pre x W) (fun pre x a' _ A B row hs hg hr => ⟨hs.1, hX pre x A B row hs.2 hg hr⟩)
    (fun l pre x W K hi hx hK => by
      have e : ((#[p].zip #[x.1]).foldl (fun t (p, v) => t.setIfInBounds p v) a.tmps) = a.tmps.setIfInBounds p x.1 := by simp
      rw [e]; exact hassign l x.1 W K (hK _ _ (KeepsFrom.refl _ _) (hKr W) hi ⟨rfl, hx⟩))
    (fun l pre x a' W hi ⟨e, hx⟩ => by subst e; exact hbody l pre x W hi hx) hdone (fun D c pre W h1 h2 h3 h4 => wpIn_wide.2 (hstop D c pre W h1 h2 h3 h4)))
end

section
set_option linter.unusedSimpArgs false
set_option linter.unusedVariables false
open Go.RowKit

attribute [local go_sem] Oper.semAt_some
def strAt (W : World) (B : Nat) : Nat := match W.cell? ⟨B, 0, none⟩ with
  | some (.string s) => s.size
  | _ => 0
/-- the text that is left lies in its block. -/
def Left (W : World) (B : Nat) (l : List UInt8) : Prop := Blk W B 9 [strV l]
theorem indexByte_in (s : ByteArray) (c : Int) (w : World) : Calls Tryz.prog 139 #[.string s, .int .u8 c] w fun e w' => e = .returned (.int .i64 (Lib.indexByte s.data.toList c.toNat.toUInt8)) ∧ w' = w := Tryz.strings_IndexByte s c w

theorem set_grown_drew {W : World} {B : Nat} {T : TypeId} {vs : List Value} (h : Blk W B T vs) (x : Value) : W.grownBy (W.setCell ⟨B, 0, none⟩ x).drew (some B) :=
  ⟨rfl, rfl, rfl, by simp [World.drew], fun k _ hk => Below.heap_setCell _ _ _ _ (fun e => hk (by simp [e]))⟩
theorem set_grown {W : World} {B : Nat} {T : TypeId} {vs : List Value} (h : Blk W B T vs) (x : Value) : W.grownBy (W.setCell ⟨B, 0, none⟩ x) (some B) :=
  ⟨rfl, rfl, rfl, by simp, fun k _ hk => Below.heap_setCell _ _ _ _ (fun e => hk (by simp [e]))⟩
set_option maxRecDepth 100000 in
set_option maxHeartbeats 4000000 in
theorem lines1_in (n : Nat) (hn : 1 ≤ n) (l Bs : Nat) (L : List UInt8) (hl : L.length ≤ 1000000) (J Jx : List (Value × List UInt8) → World → Prop)
    (hJ : ∀ pre A B, J pre A → A.grownBy B (some Bs) → J pre B)
    (hY : ∀ pre x W, J pre W → (x.1 = strV x.2 ∧ ∃ post, pre.map Prod.snd ++ x.2 :: post = linesL L) → YieldAt Fence.wide (n - 1) Tryz.prog l #[x.1] W fun e W' =>
      (e = .returned (.bool true) ∧ J (pre ++ [x]) W' ∧ W'.heap[Bs]? = W.heap[Bs]?) ∨ (e = .returned (.bool false) ∧ Jx (pre ++ [x]) W'))
    (W : World) (hBs : Left W Bs L) (h00 : J [] W) :
    CallsIn Fence.wide n Tryz.prog 138 #[.func (.yield l) #[] #[], .pointer (some ⟨Bs, 0, none⟩)] W fun e W' => (∃ v, e = .returned v) ∧
      ((∃ xs, xs.map Prod.snd = linesL L ∧ J xs W') ∨ (∃ pre, (∃ post, pre.map Prod.snd ++ post = linesL L) ∧ Jx pre W')) := by
  refine callsIn_of_wp Tryz.func138 rfl trivial ?_ rfl
  simp only [Tryz.ntmps138, List.size_toArray, List.length_cons, List.length_nil, Nat.reduceAdd, Nat.reduceSub, Array.replicate_succ, Array.replicate_zero, List.push_toArray, List.append_toArray, List.nil_append, List.cons_append]
  have hwf : ∀ f, Fence.wide.fn f := fun _ => trivial
  gi_wp2
  gi_loopw [3] (fun r wr => ∃ (pre : List (Value × List UInt8)) (rest : List UInt8), pre.map Prod.snd ++ linesL rest = linesL L ∧ rest.length ≤ 1000000 ∧ J pre wr ∧ Left wr Bs rest)
    (fun _ wr => strAt wr Bs)
  case atStart => exact ⟨[], L, rfl, hl, h00, hBs⟩
  case round =>
    clear hBs h00
    obtain ⟨pre, rest, hpre, hrl, hj, hb⟩ := hrel
    have c0 : wr.cell? ⟨Bs, 0, none⟩ = some (.string ⟨rest.toArray⟩) := hb.cell (j := 0) rfl
    have HP := Lib.hid hpre
    clear hpre
    have hsz : (⟨rest.toArray⟩ : ByteArray).size = rest.length := mk_size rest
    by_cases hlt : rest = []
    · subst hlt
      have HP2 := Lib.hid (show pre.map Prod.snd = linesL L by rw [← HP.out, linesL_nil, List.append_nil])
      clear hY
      gi_wp2
      go_end0
      exact ⟨⟨_, rfl⟩, .inl ⟨pre, HP2.out, hj⟩⟩
    · have hlt' : 0 < rest.length := List.length_pos_iff.2 hlt
      have hlt2 : (0 : Int) < (rest.length : Int) := by omega
      have HIB := Lib.hid ((callsIn_wide (n := n - 1)).2 (indexByte_in ⟨rest.toArray⟩ 10 wr))
      have hfz := hb.frozen 0
      by_cases hi : Lib.indexByte rest 10 = -1
      · have HLN := Lib.hid (linesL_none (index_none hi) hlt)
        have hi2 : Lib.indexByte (⟨rest.toArray⟩ : ByteArray).data.toList (10 : Int).toNat.toUInt8 = -1 := hi
        rw [hi2] at HIB
        clear hi hi2
        have HLE := Lib.hid (show (linesL ([] : List UInt8)) = [] from linesL_nil)
        have hb2 : Left (wr.setCell ⟨Bs, 0, none⟩ (.string ⟨#[]⟩)) Bs [] := Blk.set hb 0 (.string ⟨#[]⟩)
        have hj2 : J pre (wr.setCell ⟨Bs, 0, none⟩ (.string ⟨#[]⟩)) := hJ _ _ _ hj (set_grown hb _)
        obtain ⟨W2, hW2⟩ : ∃ v, v = wr.setCell ⟨Bs, 0, none⟩ (.string ⟨#[]⟩) := ⟨_, rfl⟩
        rw [← hW2] at hb2 hj2
        obtain ⟨fn, tmps, assign, body, hy, hR⟩ := hY pre (strV rest, rest) W2 hj2 ⟨rfl, [], by rw [← HP.out, HLN.out]⟩
        have HR := Lib.hid hR
        have HY := Lib.hid hy
        have HW2 := Lib.hid hW2
        clear hY hR hy hj hW2
        have hy : Sem.run Tryz.prog (Instr.yield l #[.string ⟨rest.toArray⟩]) W2 = .ok (.round l fn tmps assign body) W2 := HY.out
        rw [HW2.out] at hy
        gi_wp2_with (first | (gi_at_call 139; refine HIB.out.mono ?_; rintro e w1 ⟨rfl, rfl⟩))
        rw [← HW2.out]
        refine HR.out.mono ?_
        rintro e W3 (⟨rfl, hj3, hk3⟩ | ⟨rfl, hjx⟩)
        · have hb3 : Left W3 Bs [] := hk3.trans hb2
          gi_wp2
          go_roundw
          case rel => exact ⟨_, [], by rw [List.map_append, HLE.out, List.append_nil, ← HP.out, HLN.out]; rfl, by simp, hj3, hb3⟩
          case measure =>
            have e1 := hb3.cell (j := 0) (v := .string ⟨#[]⟩) rfl
            simp only [strAt, e1, c0, hsz]
            exact hlt'
        · gi_wp2
          refine bodyPost_ret (results_none rfl _ _ _) rfl ?_
          exact ⟨⟨_, rfl⟩, .inr ⟨_, ⟨[], by rw [List.map_append, List.append_nil, ← HP.out, HLN.out]; rfl⟩, hjx⟩⟩
      · have hge := Lib.indexByte_ge rest 10
        obtain ⟨o, ho⟩ : ∃ o : Nat, Lib.indexByte rest 10 = o := ⟨(Lib.indexByte rest 10).toNat, by omega⟩
        obtain ⟨hnm, hsp⟩ := index_hit ho
        have hol : o < rest.length := by
          have h1 := (Lib.indexByte_some ho).1
          exact (List.getElem?_eq_some_iff.1 h1).1
        have hi2 : Lib.indexByte (⟨rest.toArray⟩ : ByteArray).data.toList (10 : Int).toNat.toUInt8 = (o : Int) := ho
        rw [hi2] at HIB
        have hln := linesL_hit (r := rest.drop (o + 1)) hnm
        rw [← hsp] at hln
        have HLN := Lib.hid hln
        have HX1 := Lib.hid (show (⟨rest.toArray⟩ : ByteArray).extract 0 (o + 1) = ⟨(rest.take o ++ [10]).toArray⟩ from baEq (by
          rw [Lib.extract_from_zero]
          show rest.take (o + 1) = rest.take o ++ [10]
          rw [List.take_add_one, (Lib.indexByte_some ho).1]; rfl))
        have HX2 := Lib.hid (show (⟨rest.toArray⟩ : ByteArray).extract (o + 1) rest.length = ⟨(rest.drop (o + 1)).toArray⟩ from baEq (by
          have := Lib.extract_to_end (⟨rest.toArray⟩ : ByteArray) (o + 1)
          rw [hsz] at this
          exact this))
        clear hi2 hln hnm hsp ho hge hi
        have hb2 : Left (wr.setCell ⟨Bs, 0, none⟩ (strV (rest.drop (o + 1)))).drew Bs (rest.drop (o + 1)) := Blk.set hb 0 _
        have hj2 : J pre (wr.setCell ⟨Bs, 0, none⟩ (strV (rest.drop (o + 1)))).drew := hJ _ _ _ hj (set_grown_drew hb _)
        obtain ⟨W2, hW2⟩ : ∃ v, v = (wr.setCell ⟨Bs, 0, none⟩ (strV (rest.drop (o + 1)))).drew := ⟨_, rfl⟩
        rw [← hW2] at hb2 hj2
        obtain ⟨fn, tmps, assign, body, hy, hR⟩ := hY pre (strV (rest.take o ++ [10]), rest.take o ++ [10]) W2 hj2 ⟨rfl, linesL (rest.drop (o + 1)), by rw [← HP.out, HLN.out]⟩
        have HR := Lib.hid hR
        have HY := Lib.hid hy
        have HW2 := Lib.hid hW2
        clear hY hR hy hj hW2
        have v1 : IntKind.i64.wrap ((o : Int) + 1) = (o : Int) + 1 := IntWalk.i64_in _ (by omega)
        have d1 : (o : Int) + 1 ≤ (rest.length : Int) := by omega
        have d2 : (0 : Int) ≤ (o : Int) + 1 := by omega
        gi_wp2_with (first | (gi_at_call 139; refine HIB.out.mono ?_; rintro e w1 ⟨rfl, rfl⟩))
        gi_region
        rw [HX1.out, HX2.out]
        rw [← HW2.out]
        have hy : Sem.run Tryz.prog (Instr.yield l #[.string ⟨(rest.take o ++ [10]).toArray⟩]) W2 = .ok (.round l fn tmps assign body) W2 := HY.out
        gi_wp2
        refine HR.out.mono ?_
        rintro e W3 (⟨rfl, hj3, hk3⟩ | ⟨rfl, hjx⟩)
        · have hb3 : Left W3 Bs (rest.drop (o + 1)) := hk3.trans hb2
          gi_wp2
          go_roundw
          case rel => exact ⟨_, rest.drop (o + 1), by rw [List.map_append, List.append_assoc, ← HP.out, HLN.out]; rfl, by rw [List.length_drop]; omega, hj3, hb3⟩
          case measure =>
            have e1 := hb3.cell (j := 0) (v := strV (rest.drop (o + 1))) rfl
            simp only [strAt, e1, c0, hsz, mk_size, List.length_drop]
            omega
        · gi_wp2
          refine bodyPost_ret (results_none rfl _ _ _) rfl ?_
          exact ⟨⟨_, rfl⟩, .inr ⟨_, ⟨linesL (rest.drop (o + 1)), by rw [List.map_append, List.append_assoc, ← HP.out, HLN.out]; rfl⟩, hjx⟩⟩
end

section
set_option linter.unusedSimpArgs false
set_option linter.unusedVariables false
open Go.RowKit

theorem beq_data (a b : ByteArray) : (a == b) = decide (a = b) := by
  obtain ⟨x⟩ := a
  obtain ⟨y⟩ := b
  show (x == y) = _
  by_cases h : x = y
  · subst h; simp
  · rw [beq_eq_false_iff_ne.2 h]
    exact (decide_eq_false (fun e => h (ByteArray.mk.inj e))).symm
/-- what a map of one entry answers. -/
theorem lookup_one {P : Program} {w : World} {t kt et : TypeId} (hm : P.underlying t = some (.map kt et)) (hk : P.underlying kt = some .string) {r born clock : Nat} {s0 : ByteArray} {val z : Value}
    (hb : w.heap[r]? = some (.map #[{ key := .string s0, val := val, born := born }] clock)) (hz : (zeroValue et).run P w = .ok z w) (k : ByteArray) :
    (Instr.lookup t (.map (some r)) (.string k) true).run P w = .ok (if k = s0 then .tuple #[val, .bool true] else .tuple #[z, .bool false]) w := by
  have hc : (Instr.checkKey false 10000 kt (.string k)).run P w = .ok () w := MapKept.run_checkKey (k := .string k) hk (by simp [MapKept.IsKey]) false 9999
  by_cases h : k = s0
  · subst h
    have hf : Instr.findNow .string (.string k) [{ key := .string k, val := val, born := born }] 0 = some (some (0, val)) := by simp [Instr.findNow, Instr.sameNow, beq_data]
    simp [Instr.lookup, run_underlying hm, MapKept.run_getObj_map hb, hc, MapKept.run_findKey hk hf, Result.andThen]
  · have hf : Instr.findNow .string (.string k) [{ key := .string s0, val := val, born := born }] 0 = some none := by simp [Instr.findNow, Instr.sameNow, beq_data, h]
    simp [Instr.lookup, run_underlying hm, MapKept.run_getObj_map hb, hc, MapKept.run_findKey hk hf, Result.andThen, hz, h]
def branchB : ByteArray := ⟨#[98, 114, 97, 110, 99, 104]⟩
/-- the map of the forms of lines. -/
def FormsM (W : World) (v : Value) : Prop := ∃ r, v = .map (some r) ∧ W.heap[r]? = some (.map #[{ key := .string branchB, val := .agg #[.func (.func 142) #[] #[]], born := 0 }] 1)
theorem FormsM.carry {W W' : World} {v : Value} (h : FormsM W v) (hb : Below W.heap.size W W') : FormsM W' v := by
  obtain ⟨r, rfl, hr⟩ := h
  exact ⟨r, rfl, (hb.block r (Array.getElem?_eq_some_iff.1 hr).1).trans hr⟩
set_option maxRecDepth 100000 in
theorem forms_any (W : World) : Calls Tryz.prog 87 #[] W fun e W' => (∃ v, e = .returned v ∧ FormsM W' v) ∧ Below W.heap.size W W' := by
  have hmm := @run_makeMap Tryz.prog
  have hmu := run_mapUpdate_first (P := Tryz.prog) (w := W.alloc (.map #[] 0)) 162 9 160 W.heap.size 0 ⟨#[98, 114, 97, 110, 99, 104]⟩ (.agg #[.func (.func 142) #[] #[]]) Tryz.underlying162 Tryz.underlying9 (heap_alloc_new W _)
  obtain ⟨W2, hW2⟩ : ∃ v : World, v = { W.alloc (.map #[] 0) with heap := (W.alloc (.map #[] 0)).heap.setIfInBounds W.heap.size (.map #[{ key := .string ⟨#[98, 114, 97, 110, 99, 104]⟩, val := .agg #[.func (.func 142) #[] #[]], born := 0 }] (0 + 1)) } := ⟨_, rfl⟩
  rw [← hW2] at hmu
  have hm2 : W2.heap[W.heap.size]? = some (.map #[{ key := .string branchB, val := .agg #[.func (.func 142) #[] #[]], born := 0 }] 1) := by
    rw [hW2]
    exact (MapKept.heap_set (heap_alloc_new W _)).1
  have hb2 : Below W.heap.size W W2 := by
    rw [hW2]
    refine ⟨rfl, rfl, rfl, by simp, fun k hk => ?_⟩
    rw [(MapKept.heap_set (heap_alloc_new W _)).2 k (by omega)]
    exact Below.heap_alloc W _ k hk
  have HM2 := Lib.hid hm2
  have HB2 := Lib.hid hb2
  clear hW2 hm2 hb2
  go_enter Tryz.func87, Tryz.ntmps87
  go_wp2
  go_ret
  exact ⟨⟨_, rfl, _, rfl, HM2.out⟩, HB2.out⟩
end

section
set_option linter.unusedSimpArgs false
set_option linter.unusedVariables false
open Go.RowKit

theorem ownsRow_neB {W : World} {base : Nat} {e : TypeId} {size : Nat} {v : Value} {k : Nat} {xs : List Value} (h : W.ownsRow base e size v k xs) {j : Nat} {T : TypeId} {vs : List Value} (hj : Blk W j T vs) (hT : T ≠ e) : v.ownBlock ≠ some j := by
  intro hb
  rcases h.2 with ⟨rfl, _⟩ | ⟨g, cap, cur, rfl, _, hg, _⟩
  · simp [Value.ownBlock] at hb
  · obtain rfl : g = j := by simpa [Value.ownBlock] using hb
    have := hg.symm.trans hj
    simp at this
    exact hT this.2.symm
theorem ownsRow_sl {w : World} {base e size n : Nat} {v : Value} {xs : List Value} (h : w.ownsRow base e size v n xs) : ∃ a cap, v = .slice a n cap := by
  rcases h.2 with ⟨rfl, rfl⟩ | ⟨g, cap, cur, rfl, _⟩
  · exact ⟨_, _, rfl⟩
  · exact ⟨_, _, rfl⟩
theorem ownsRow_setO {w : World} {base e size n B j : Nat} {v x : Value} {xs : List Value} (h : w.ownsRow base e size v n xs) (hB : B < base) : (w.setCell ⟨B, j, none⟩ x).ownsRow base e size v n xs := by
  obtain ⟨h1, h2⟩ := h
  refine ⟨h1, ?_⟩
  rcases h2 with h2 | ⟨g, cap, cur, hv, hg, hh, r⟩
  · exact Or.inl h2
  · exact Or.inr ⟨g, cap, cur, hv, hg, (Below.heap_setCell _ _ _ _ (by simp; omega)).trans hh, r⟩
theorem ownsRow_cells {W : World} {base : Nat} {e : TypeId} {size : Nat} {v : Value} {k : Nat} {xs : List Value} (h : W.ownsRow base e size v k xs) {j : Nat} {o : Obj} (hj : v.ownBlock = some j) (ho : W.heap[j]? = some o) : o.isCells = true := by
  rcases h.2 with ⟨rfl, _⟩ | ⟨g, cap, cur, rfl, _, hg, _⟩
  · simp [Value.ownBlock] at hj
  · obtain rfl : g = j := by simpa [Value.ownBlock] using hj
    have := hg.symm.trans ho
    cases this
    rfl
theorem below_gr {H : Nat} {A B : World} {row : Option Nat} (hg : A.grownBy B row) (hr : ∀ r, row = some r → H ≤ r) (hs : H ≤ A.heap.size) : Below H A B :=
  ⟨hg.1, hg.2, hg.3, hg.size, fun k hk => hg.block k (by omega) (fun e => by have := hr k e.symm; omega)⟩
theorem flat2_snoc (l : List (Int × Int)) (a b : Int) : flat2 (l ++ [(a, b)]) = flat2 l ++ [a, b] := by simp [flat2]
/-- what two numbers taken tell. -/
def twoW (ws : List (List UInt8)) : Bool := okW ws && okW (ws.drop 1)
def TakePost (base F B : Nat) (fl : List (Int × Int)) (ws : List (List UInt8)) (W : World) (W' : World) : Prop :=
  ∃ (l c : Int) (fv u : Value), (twoW ws = true → l = valD (ws[0]?.getD []) ∧ c = valD (ws[1]?.getD [])) ∧
    Blk W' F 73 [fv] ∧ W'.ownsRow base 148 2 fv (fl ++ [(l, c)]).length ((flat2 (fl ++ [(l, c)])).map (Value.int .i64)) ∧
    Blk W' B 166 [u, .bool (!twoW ws)] ∧ (∃ a cp, u = .slice a (ws.length - 2) cp)
set_option maxRecDepth 100000 in
set_option maxHeartbeats 4000000 in
theorem take_any (base F B : Nat) (v fv : Value) (fl : List (Int × Int)) (ws : List (List UInt8)) (W : World) (hF : Blk W F 73 [fv]) (hFb : F < base) (hbB : base ≤ B)
    (hown : W.ownsRow base 148 2 fv fl.length ((flat2 fl).map (Value.int .i64))) (hfl : fl.length ≤ 1000000)
    (hB : Blk W B 166 [v, .bool false]) (hv : Vals W v (ws.map strV)) (hl : ws.length ≤ 1000000) (hw : ∀ p ∈ ws, p.length ≤ 1000000) (hne : ∀ b off c, v = .slice (some ⟨b, off, none⟩) ws.length c → b ≠ B) :
    Calls Tryz.prog 142 #[.pointer (some ⟨F, 0, none⟩), .pointer (some ⟨B, 0, none⟩)] W fun e W' => e = .returned (.tuple #[]) ∧ TakePost base F B fl ws W W' ∧ Keep (fun k => k = F ∨ base ≤ k) W W' := by
  have hBl := Blk.lt hB
  have T1 := Lib.hid (number_any B v false ws W hB hv hl hw hne)
  have hob : fv.ownBlock ≠ some B := ownsRow_neB hown hB (by decide)
  have HF := Lib.hid hF
  have HO := Lib.hid hown
  have HOB := Lib.hid hob
  clear hF hown hB hv hob
  go_enter Tryz.func142, Tryz.ntmps142
  go_wp2_with fail
  refine T1.out.mono ?_
  rintro e W1 ⟨n1, u1, rfl, hn1, i1, v1, ne1, b1⟩
  have T2 := Lib.hid (number_any B u1 (false || !okW ws) (ws.drop 1) W1 i1 v1 (by rw [List.length_drop]; omega) (fun p hp => hw p (List.mem_of_mem_drop hp)) ne1)
  clear i1 v1 ne1
  go_wp2_with fail
  refine T2.out.mono ?_
  rintro e W2 ⟨n2, u2, rfl, hn2, i2, v2, ne2, b2⟩
  have hb := b1.trans b2
  have iF := hb.blk HF.out (by omega)
  have ho := hb.own HO.out (fun g hg e => HOB.out (by rw [hg, e]))
  have hHB2 : Keep (fun k => k = F ∨ base ≤ k) W W2 := hb.mono (fun k hk => .inr (by omega))
  have hs2 : W.heap.size ≤ W2.heap.size := hb.size
  have HPST := Lib.hid (show twoW ws = true → n1 = valD (ws[0]?.getD []) ∧ n2 = valD (ws[1]?.getD []) from fun h => by
    unfold twoW at h
    rw [Bool.and_eq_true] at h
    have h2 := hn2 h.2
    rw [List.getElem?_drop] at h2
    exact ⟨hn1 h.1, h2⟩)
  have HI2 := Lib.hid i2
  have HV2 := Lib.hid v2
  clear hn1 hn2 i2 v2 ne2 b1 b2 hb
  obtain ⟨fa, fc, rfl⟩ := ownsRow_sl ho
  have c0 := iF.cell (j := 0) (v := .slice fa fl.length fc) rfl
  obtain ⟨i0, hi, hz0, hz1, hz2⟩ := info_parts Tryz.infoBranch
  go_wp2_with (at_builtin; refine wpList_append_own _ rfl _ _ 71 rfl base 148 i0 (.agg #[.int .i64 0, .int .i64 0]) 2 16 Tryz.undBranches hi hz0 hz1 hz2 rfl (by decide) _ _ _ rfl (ho.alloc _) ⟨W2.heap.size, 0, none⟩ 1 1 [.int .i64 n1, .int .i64 n2] rfl rfl (fun j u hj => (Blk.new W2 148 [.int .i64 n1, .int .i64 n2]).news j u hj) (by simp [Value.oneCell']) (by unfold maxLen; omega) (by omega) (by simp; omega) ?_; intro v' W3 ho3 hg3 _; obtain ⟨fa', fc', rfl⟩ := ownsRow_sl ho3; have jF := Blk.own_kept (iF.carry (below_new W2 (.cells #[.int .i64 n1, .int .i64 n2] 148))) (ho.alloc _) (by decide) hg3; have cF := jF.cell (j := 0) (v := .slice fa fl.length fc) rfl; have fF := jF.frozen 0)
  have hb3 : Below W2.heap.size W2 (W2.alloc (.cells #[.int .i64 n1, .int .i64 n2] 148)) := below_new _ _
  have hoa := ho.alloc (.cells #[.int .i64 n1, .int .i64 n2] 148)
  have hHB3 : Keep (fun k => k = F ∨ base ≤ k) W W3 := (hHB2.trans (Keep.of_below hb3)).grown hg3 (fun b hb => ⟨.inr (hoa.lt b hb).1, fun o ho' => ownsRow_cells hoa hb ho'⟩)
  have jB := Blk.own_kept (HI2.out.carry hb3) (ho.alloc _) (by decide) hg3
  go_end0
  obtain ⟨ua, uc, rfl, _, _⟩ := HV2.out
  rw [show ((false || !okW ws) || !okW (ws.drop 1)) = (!twoW ws) by unfold twoW; cases okW ws <;> cases okW (ws.drop 1) <;> rfl] at jB
  refine ⟨rfl, ⟨n1, n2, _, _, HPST.out, jF.set 0 _, ?_, jB.other (by omega) _, ua, uc, ?_⟩, hHB3.setCell jF (.inl rfl) _⟩
  · rw [List.length_append, List.length_singleton, flat2_snoc, List.map_append]
    exact ownsRow_setO ho3 hFb
  · rw [List.length_map, List.length_drop, List.length_drop, show ws.length - 1 - 1 = ws.length - 2 by omega]
end

section
set_option linter.unusedSimpArgs false
set_option linter.unusedVariables false
open Go.RowKit

def MaxL (W : World) : Prop := ∃ m, W.cell? ⟨2, 0, none⟩ = some (.int .i64 m)
theorem MaxL.carry {W W' : World} (h : MaxL W) (hb : Below W.heap.size W W') : MaxL W' := by
  obtain ⟨m, hm⟩ := h
  exact ⟨m, cellb hm hb⟩
def endsL (l : List UInt8) : Bool := l.getLast? == some 10
def bodyL (l : List UInt8) : List UInt8 := if endsL l = true then l.dropLast else l
theorem suffix_one (l : List UInt8) : Lib.hasSuffix l [10] = endsL l := by
  unfold endsL
  show List.isSuffixOf [10] l = _
  rcases List.eq_nil_or_concat l with rfl | ⟨a, b, rfl⟩
  · rfl
  · rw [List.concat_eq_append, List.getLast?_concat]
    by_cases h : b = 10
    · subst h
      rw [List.isSuffixOf_iff_suffix.2 (List.suffix_append a [10])]
      rfl
    · have h1 : ¬ ([10] : List UInt8) <:+ a ++ [b] := fun ⟨t, ht⟩ => by
        have := (List.append_inj' ht rfl).2
        simp at this
        exact h this.symm
      rw [show List.isSuffixOf [10] (a ++ [b]) = false by rw [Bool.eq_false_iff]; exact fun e => h1 (List.isSuffixOf_iff_suffix.1 e)]
      simp [h]
theorem trim_one (l : List UInt8) : Lib.trimSuffix l [10] = bodyL l := by
  unfold Lib.trimSuffix bodyL
  rw [suffix_one]
  by_cases h : endsL l = true
  · rw [if_pos h, if_pos h, List.dropLast_eq_take]; rfl
  · rw [if_neg h, if_neg h]
theorem cut_any (l : List UInt8) (W : World) (hl : l.length ≤ 1000000) :
    Calls Tryz.prog 85 #[strV l, .string ⟨#[10]⟩] W fun e w' => e = .returned (.tuple #[strV (bodyL l), .bool (endsL l)]) ∧ w' = W := by
  have h := Tryz.strings_CutSuffix ⟨l.toArray⟩ ⟨#[10]⟩ W (by rw [mk_size]; omega)
  rw [show Lib.trimSuffix (⟨l.toArray⟩ : ByteArray).data.toList (⟨#[10]⟩ : ByteArray).data.toList = bodyL l from trim_one l, show Lib.hasSuffix (⟨l.toArray⟩ : ByteArray).data.toList (⟨#[10]⟩ : ByteArray).data.toList = endsL l from suffix_one l] at h
  exact h
theorem pieces_one (l : List UInt8) : (Lib.splitB ⟨#[32]⟩ 0 (Lib.countB ⟨l.toArray⟩ ⟨#[32]⟩) ⟨l.toArray⟩).map Value.string = (splitC 32 l).map strV := by
  have h := Lib.splitB_data ⟨#[32]⟩ 0 (Lib.countB ⟨l.toArray⟩ ⟨#[32]⟩) ⟨l.toArray⟩
  have h2 : Lib.splitK [32] 0 (Lib.countB ⟨l.toArray⟩ ⟨#[32]⟩) l = splitC 32 l := split_one 32 l
  rw [show Lib.splitK (⟨#[32]⟩ : ByteArray).data.toList 0 (Lib.countB ⟨l.toArray⟩ ⟨#[32]⟩) (⟨l.toArray⟩ : ByteArray).data.toList = splitC 32 l from h2] at h
  rw [← h, List.map_map]
  apply List.map_congr_left
  intro b _
  show Value.string b = strV b.data.toList
  exact congrArg Value.string (baEq rfl)
theorem words_any (l : List UInt8) (W : World) (hl : l.length ≤ 1000000) (hM : MaxL W) :
    Calls Tryz.prog 86 #[strV l, .string ⟨#[32]⟩] W fun e W' => e = .returned (.slice (some ⟨W.heap.size, 0, none⟩) (splitC 32 l).length (splitC 32 l).length) ∧ Blk W' W.heap.size 9 ((splitC 32 l).map strV) ∧ Below W.heap.size W W' := by
  obtain ⟨m, hm⟩ := hM
  have h := Tryz.strings_Split ⟨l.toArray⟩ ⟨#[32]⟩ m W (by rw [mk_size]; omega) hm (by decide)
  have hp := pieces_one l
  have hc : Lib.countB ⟨l.toArray⟩ ⟨#[32]⟩ + 1 = (splitC 32 l).length := by
    rw [splitC_length]
    show Lib.count l [32] + 1 = _
    rw [Lib.count_one]
  rw [hp, hc] at h
  refine h.mono ?_
  rintro e W' ⟨rfl, rfl⟩
  exact ⟨rfl, Blk.new _ _ _, below_new _ _⟩
theorem Vals.of_blk {W : World} {B : Nat} {T : TypeId} {us : List Value} (h : Blk W B T us) : Vals W (.slice (some ⟨B, 0, none⟩) us.length us.length) us :=
  ⟨some ⟨B, 0, none⟩, us.length, rfl, Nat.le_refl _, fun _ => ⟨B, 0, rfl, fun j u hj => by rw [Nat.zero_add]; exact h.cell hj⟩⟩
/-- a line is one of a branch. -/
theorem lineP_of (l : List UInt8) : lineP l = if endsL l = true then brW (splitC 32 (bodyL l)) else none := by
  unfold lineP bodyL endsL
  by_cases h : l.getLast? = some 10
  · rw [if_pos h, if_pos (by simp [h])]
    rw [if_pos (by simp [h])]
  · rw [if_neg h, if_neg (by simp [h])]
theorem blk_own {W W' : World} {row : Option Nat} {k : Nat} {T : TypeId} {vs : List Value} (hb : Blk W k T vs) (hg : W.grownBy W' row) (hr : ∀ r, row = some r → r ≠ k) : Blk W' k T vs :=
  (hg.block k (Array.getElem?_eq_some_iff.1 hb).1 (fun e => hr k e.symm rfl)).trans hb
theorem own_own {W W' : World} {row : Option Nat} {base e size n : Nat} {v : Value} {xs : List Value} (ho : W.ownsRow base e size v n xs) (hg : W.grownBy W' row) (hr : ∀ r g, row = some r → v.ownBlock = some g → r ≠ g) : W'.ownsRow base e size v n xs := by
  obtain ⟨h1, h2⟩ := ho
  refine ⟨h1, ?_⟩
  rcases h2 with h2 | ⟨g, cap, cur, hv, hg', hh, r⟩
  · exact Or.inl h2
  · exact Or.inr ⟨g, cap, cur, hv, hg', (hg.block g (Array.getElem?_eq_some_iff.1 hh).1 (fun e => hr g g e.symm (by rw [hv]; rfl) rfl)).trans hh, r⟩
theorem ne_of_blk {W : World} {k r : Nat} {T : TypeId} {vs : List Value} (hb : Blk W k T vs) (hr : ∃ o : Obj, W.heap[r]? = some o ∧ o.isCells = false) : r ≠ k := by
  rintro rfl
  obtain ⟨o, ho, hc⟩ := hr
  have := hb.symm.trans ho
  cases this
  cases hc
/-- what holds as the lines so far are read. -/
def PInv (w : World) (pre : List (Value × List UInt8)) (W : World) : Prop :=
  (∀ x ∈ pre, lineP x.2 ≠ none) ∧ Blk W w.heap.size 73 [.slice none 0 0] ∧ Blk W (w.heap.size + 1) 3 [.int .i64 0] ∧ Blk W (w.heap.size + 2) 31 [.int .i64 0] ∧
    Blk W (w.heap.size + 4) 3 [.int .i64 (pre.length : Int)] ∧ (∃ fv, Blk W (w.heap.size + 3) 73 [fv] ∧
      W.ownsRow (w.heap.size + 6) 148 2 fv (brsOf (pre.map Prod.snd)).length ((flat2 (brsOf (pre.map Prod.snd))).map (Value.int .i64))) ∧ Below w.heap.size w W ∧ w.heap.size + 6 ≤ W.heap.size
/-- what a wrong line leaves. -/
def PEx (w : World) (c : Code) (pre : List (Value × List UInt8)) (W : World) : Prop :=
  (c = .ret ∧ ∃ pre' x, pre = pre' ++ [x] ∧ (∀ y ∈ pre', lineP y.2 ≠ none) ∧ lineP x.2 = none) ∧ Blk W w.heap.size 73 [.slice none 0 0] ∧ Blk W (w.heap.size + 1) 3 [.int .i64 ((pre.length - 1 : Nat) : Int)] ∧
    Blk W (w.heap.size + 2) 31 [.int .i64 25] ∧ Below w.heap.size w W
theorem below_grown {H : Nat} {w A B : World} {row : Option Nat} (h : Below H w A) (hg : A.grownBy B row) (hr : ∀ r, row = some r → H ≤ r) (hs : H ≤ w.heap.size) : Below H w B :=
  h.trans ⟨hg.1, hg.2, hg.3, hg.size, fun k hk => hg.block k (by have := h.size; omega) (fun e => by have := hr k e.symm; omega)⟩
theorem PInv.own (w : World) {H : Nat} (hH : w.heap.size ≤ H) : OwnFrom H (PInv w) := by
  rintro pre A B row ⟨h1, h2, h3, h4, h5, ⟨fv, h6, h7⟩, h8, h9⟩ hg hr
  have hb : ∀ {k : Nat} {T : TypeId} {vs : List Value}, Blk A k T vs → Blk B k T vs := fun hk => blk_own hk hg (fun r e => ne_of_blk hk (hr r e).2)
  exact ⟨h1, hb h2, hb h3, hb h4, hb h5, ⟨fv, hb h6, own_own h7 hg (fun r g e hv e2 => by
    obtain ⟨_, o, ho, hc⟩ := hr r e
    subst e2
    have := ownsRow_cells h7 hv ho
    rw [hc] at this; cases this)⟩, below_grown h8 hg (fun r e => by have := (hr r e).1; omega) (Nat.le_refl _), Nat.le_trans h9 hg.size⟩
theorem PInv.write (w : World) (pre : List (Value × List UInt8)) (A B : World) (h : PInv w pre A) (hg : A.grownBy B (some (w.heap.size + 5))) : PInv w pre B := by
  obtain ⟨h1, h2, h3, h4, h5, ⟨fv, h6, h7⟩, h8, h9⟩ := h
  have hb : ∀ {k : Nat} {T : TypeId} {vs : List Value}, Blk A k T vs → w.heap.size + 5 ≠ k → Blk B k T vs := fun hk hn => blk_own hk hg (fun r e => by cases e; exact hn)
  exact ⟨h1, hb h2 (by omega), hb h3 (by omega), hb h4 (by omega), hb h5 (by omega), ⟨fv, hb h6 (by omega), own_own h7 hg (fun r g e hv e2 => by
    cases e
    have := (h7.lt g hv).1
    omega)⟩, below_grown h8 hg (fun r e => by cases e; omega) (Nat.le_refl _), Nat.le_trans h9 hg.size⟩
theorem PEx.own (w : World) {H : Nat} (hH : w.heap.size ≤ H) (c : Code) : OwnFrom H (PEx w c) := by
  rintro pre A B row ⟨h1, h2, h3, h4, h8⟩ hg hr
  have hb : ∀ {k : Nat} {T : TypeId} {vs : List Value}, Blk A k T vs → Blk B k T vs := fun hk => blk_own hk hg (fun r e => ne_of_blk hk (hr r e).2)
  exact ⟨h1, hb h2, hb h3, hb h4, below_grown h8 hg (fun r e => by have := (hr r e).1; omega) (Nat.le_refl _)⟩
theorem lines_any (s : ByteArray) (w : World) :
    Calls Tryz.prog 84 #[.string s] w fun e w' => e = .returned (.func (.func 138) #[] #[.pointer (some ⟨w.heap.size, 0, none⟩)]) ∧ w.alloc (.cells #[.string s] 9) = w' := by
  go_enter Tryz.func84, Tryz.ntmps84
  go_wp2
  go_ret
  exact ⟨rfl, rfl⟩
theorem lines_seq (n : Nat) (hn : 1 ≤ n) (Bs : Nat) (L : List UInt8) (hl : L.length ≤ 1000000) (w : World) (hBs : Left w Bs L) :
    SeqR Fence.wide n Tryz.prog 138 #[.pointer (some ⟨Bs, 0, none⟩)] (fun x : Value × List UInt8 => #[x.1]) (fun pre x _ => x.1 = strV x.2 ∧ ∃ post, pre.map Prod.snd ++ x.2 :: post = linesL L) (fun A B => B.heap[Bs]? = A.heap[Bs]?)
      (fun xs => xs.map Prod.snd = linesL L) (fun pre => ∃ post, pre.map Prod.snd ++ post = linesL L) (fun r => r = Bs) w :=
  fun l J Jx W hW hJ _ hY h00 => (lines1_in n hn l Bs L hl J Jx (fun pre A B h hg => hJ pre A B (some Bs) h hg (fun r e => by cases e; rfl)) hY W (hBs.carry hW) h00)
end

end Go.Proofs.YtoihfmndhfnmmaaGreatDoor

/- Texts of loops: the program's Parse, facts of its rounds. -/
import Derived.Test.YtfdehcphmmhjaaaGreatDoorLopB
import Derived.Test.YtfdehcphmmhjaaaGreatDoorRefB
import Derived.Laws.EntriesVeiled
import Derived.Sort.CutIn
namespace Go.Proofs.YtfdehcphmmhjaaaGreatDoor
set_option linter.unusedSimpArgs false
set_option linter.unusedVariables false
open Go.RowKit

attribute [local go_sem] Oper.semAt_some
def zeroC : List Value := [.slice none 0 0, .slice none 0 0, .slice none 0 0, .slice none 0 0]
def zeroL : Value := .agg #[.slice none 0 0, .slice none 0 0, .slice none 0 0, .slice none 0 0]
/-- what Parse tells of a text. -/
def ParsePost (L : List UInt8) (e : Ending) (W' : World) : Prop :=
  if 4096 < L.length then e = .returned (.tuple #[zeroL, .int .i64 0, .int .i64 26]) else
  match badN (linesL L) with
  | some n => e = .returned (.tuple #[zeroL, .int .i64 (n : Int), .int .i64 25])
  | none => if (linesL L).length < 4 then e = .returned (.tuple #[zeroL, .int .i64 ((linesL L).length : Int), .int .i64 2]) else
    if checkLoopE (polyN (linesL L) 0) (polyN (linesL L) 1) (polyN (linesL L) 2) (polyN (linesL L) 3) = 0 then
      ∃ u0 u1 u2 u3, e = .returned (.tuple #[.agg #[u0, u1, u2, u3], .int .i64 0, .int .i64 0]) ∧ Ints W' u0 (polyN (linesL L) 0) ∧ Ints W' u1 (polyN (linesL L) 1) ∧ Ints W' u2 (polyN (linesL L) 2) ∧ Ints W' u3 (polyN (linesL L) 3)
    else e = .returned (.tuple #[zeroL, .int .i64 ((linesL L).length : Int), .int .i64 (checkLoopE (polyN (linesL L) 0) (polyN (linesL L) 1) (polyN (linesL L) 2) (polyN (linesL L) 3))])
def three (W : World) (h : Nat) (v2 v3 v4 : Value) : World := ((W.setCell ⟨h, 0, none⟩ v2).setCell ⟨h + 1, 0, none⟩ v3).setCell ⟨h + 1 + 1, 0, none⟩ v4
/-- the loop that is read. -/
def LoopT (W : World) (F base : Nat) (P : Nat → List Int) : Prop := ∃ vs : List Value, vs.length = 4 ∧ Blk W F 32 vs ∧ ∀ k v, vs[k]? = some v → OwnI 3 base W v (P k)
/-- what holds as the lines so far are read: m the map's block, M the block that holds the map. -/
def PInv (w : World) (m M : Nat) (pre : List (Value × List UInt8)) (W : World) : Prop :=
  (∀ j x, pre[j]? = some x → lineN j x.2 ≠ none) ∧ Blk W w.heap.size 32 zeroC ∧ Blk W (w.heap.size + 1) 3 [.int .i64 0] ∧ Blk W (w.heap.size + 2) 27 [.int .i64 0] ∧
    LoopT W (w.heap.size + 3) (M + 2) (polyN (pre.map Prod.snd)) ∧ Blk W (w.heap.size + 4) 3 [.int .i64 (pre.length : Int)] ∧ Blk W M 86 [.map (some m)] ∧ W.ownsMap Tryz.prog 3 fldR m 4 fldD ∧
    Below w.heap.size w W ∧ M + 2 ≤ W.heap.size
/-- what a wrong line leaves. -/
def PEx (w : World) (c : Code) (pre : List (Value × List UInt8)) (W : World) : Prop :=
  (c = .ret ∧ ∃ pre' x, pre = pre' ++ [x] ∧ (∀ j y, pre'[j]? = some y → lineN j y.2 ≠ none) ∧ lineN pre'.length x.2 = none) ∧ Blk W w.heap.size 32 zeroC ∧ Blk W (w.heap.size + 1) 3 [.int .i64 ((pre.length - 1 : Nat) : Int)] ∧
    Blk W (w.heap.size + 2) 27 [.int .i64 25] ∧ Below w.heap.size w W
theorem owni_own {W W' : World} {row : Option Nat} {base : Nat} {e : TypeId} {v : Value} {l : List Int} (ho : OwnI e base W v l) (hg : W.grownBy W' row) (hr : ∀ r g, row = some r → v.ownBlock = some g → r ≠ g) : OwnI e base W' v l := own_own ho hg hr
theorem map_own {W W' : World} {row : Option Nat} {m : Nat} {D : DataW Unit} {n : Nat} (h : W.ownsMap Tryz.prog 3 fldR m n D) (hg : W.grownBy W' row) (hr : ∀ r, row = some r → r ≠ m) : W'.ownsMap Tryz.prog 3 fldR m n D := by
  obtain ⟨es, clock, hc, r⟩ := h
  exact ⟨es, clock, (hg.block m (Array.getElem?_eq_some_iff.1 hc).1 (fun e => hr m e.symm rfl)).trans hc, r⟩
theorem LoopT.own {W W' : World} {row : Option Nat} {F base : Nat} {P : Nat → List Int} (h : LoopT W F base P) (hg : W.grownBy W' row) (hF : ∀ r, row = some r → r ≠ F) (hr : ∀ (v : Value) r g, row = some r → v.ownBlock = some g → base ≤ g → (∃ o, W.heap[g]? = some o ∧ o.isCells = true) → r ≠ g) : LoopT W' F base P := by
  obtain ⟨vs, h4, hb, hv⟩ := h
  refine ⟨vs, h4, blk_own hb hg hF, fun k v hk => owni_own (hv k v hk) hg (fun r g e hg' => ?_)⟩
  obtain ⟨o, ho⟩ : ∃ o, W.heap[g]? = some o := ⟨_, Array.getElem?_eq_getElem ((hv k v hk).lt g hg').2⟩
  exact hr v r g e hg' ((hv k v hk).lt g hg').1 ⟨o, ho, ownsRow_cells (hv k v hk) hg' ho⟩
theorem PInv.own (w : World) {m M H : Nat} (hm : m < H) (hH : w.heap.size ≤ H) : OwnFrom H (PInv w m M) := by
  rintro pre A B row ⟨h1, h2, h3, h4, h5, h6, h7, h8, h9, h10⟩ hg hr
  have hb : ∀ {k : Nat} {T : TypeId} {vs : List Value}, Blk A k T vs → Blk B k T vs := fun hk => blk_own hk hg (fun r e => ne_of_blk hk (hr r e).2)
  refine ⟨h1, hb h2, hb h3, hb h4, h5.own hg (fun r e => ?_) (fun v r g e hv hge ⟨o2, ho2, hc2⟩ e2 => ?_), hb h6, hb h7, map_own h8 hg (fun r e => by have := (hr r e).1; omega), below_grown h9 hg (fun r e => by have := (hr r e).1; omega) (Nat.le_refl _), Nat.le_trans h10 hg.size⟩
  · obtain ⟨vs, _, hF, _⟩ := h5
    exact ne_of_blk hF (hr r e).2
  · obtain ⟨_, o, ho, hc⟩ := hr r e
    subst e2
    rw [ho] at ho2
    cases ho2
    rw [hc] at hc2; cases hc2
theorem PInv.write (w : World) (m M : Nat) (hm : m ≤ M) (hM : w.heap.size + 5 ≤ M) (pre : List (Value × List UInt8)) (A B : World) (h : PInv w m M pre A) (hg : A.grownBy B (some (M + 1))) : PInv w m M pre B := by
  obtain ⟨h1, h2, h3, h4, h5, h6, h7, h8, h9, h10⟩ := h
  have hb : ∀ {k : Nat} {T : TypeId} {vs : List Value}, Blk A k T vs → M + 1 ≠ k → Blk B k T vs := fun hk hn => blk_own hk hg (fun r e => by cases e; exact hn)
  exact ⟨h1, hb h2 (by omega), hb h3 (by omega), hb h4 (by omega), h5.own hg (fun r e => by cases e; omega) (fun v r g e hv hge _ => by cases e; omega), hb h6 (by omega), hb h7 (by omega), map_own h8 hg (fun r e => by cases e; omega), below_grown h9 hg (fun r e => by cases e; omega) (Nat.le_refl _), Nat.le_trans h10 hg.size⟩
theorem PEx.own (w : World) {H : Nat} (hH : w.heap.size ≤ H) (c : Code) : OwnFrom H (PEx w c) := by
  rintro pre A B row ⟨h1, h2, h3, h4, h8⟩ hg hr
  have hb : ∀ {k : Nat} {T : TypeId} {vs : List Value}, Blk A k T vs → Blk B k T vs := fun hk => blk_own hk hg (fun r e => ne_of_blk hk (hr r e).2)
  exact ⟨h1, hb h2, hb h3, hb h4, below_grown h8 hg (fun r e => by have := (hr r e).1; omega) (Nat.le_refl _)⟩
theorem three_blk {W : World} {k D : Nat} {T : TypeId} {v : Value} (b : Blk W k T [v]) (hk : k < D) : (W.putObj D (.deferred none)).cell? ⟨k, 0, none⟩ = some v :=
  (blk_own b (grownBy_putObj' W D (.deferred none)) (fun r e => by cases e; omega)).cell (j := 0) rfl
def zeroF : Value := .agg #[.string ⟨#[]⟩, .nilFunc]
set_option maxRecDepth 100000 in
/-- the lookup of a line's form, told whether it is there. -/
theorem fld_lookT {w : World} {b : Nat} (h : w.ownsMap Tryz.prog 3 fldR b 4 fldD) (k : Nat) (hk : k ≤ 4) : (Instr.lookup 86 (.map (some b)) (.int .i64 k) true).run Tryz.prog w = .ok (.tuple #[if k < 4 then fld k else zeroF, .bool (decide (k < 4))]) w := by
  have hu : Tryz.prog.underlying 3 = some (.int .i64) := by kernel_rfl
  have hm : Tryz.prog.underlying 86 = some (.map 3 90) := by kernel_rfl
  have hz : (zeroValue 90).run Tryz.prog w = .ok zeroF w := by kernel_rfl
  have hw : (Lit.int .i64 (k : Int)).wf = true := by
    obtain rfl | rfl | rfl | rfl | rfl : k = 0 ∨ k = 1 ∨ k = 2 ∨ k = 3 ∨ k = 4 := by omega
    all_goals decide
  have hD : ∀ zd : DataW Unit, fldD.atKey (.int .i64 (k : Int)) zd = if k < 4 then .lit (.int .i64 (k : Int)) else zd := fun zd => by
    obtain rfl | rfl | rfl | rfl | rfl : k = 0 ∨ k = 1 ∨ k = 2 ∨ k = 3 ∨ k = 4 := by omega
    all_goals rfl
  obtain ⟨es, clock, hb, F, _, hE⟩ := h
  rcases Maps.fit_look true (Maps.int_keyed hu) hm hz hb F (Maps.keyOf_int_mk hu hw) with ⟨hrun, _, hat⟩ | ⟨e0, y, _, _, hrun, hRv, hat, _⟩
  · rw [← hE] at hat
    by_cases h4 : k < 4
    · have h1 := hat (.lit (.int .i64 (-1)))
      rw [hD, if_pos h4] at h1
      injection h1 with h1
      injection h1 with _ h1
      omega
    · rw [if_neg h4, decide_eq_false h4]; exact hrun
  · rw [← hE] at hat
    by_cases h4 : k < 4
    · have h1 := hat (.lit (.int .i64 (-1)))
      rw [hD, if_pos h4] at h1
      rw [if_pos h4, decide_eq_true h4, hrun]
      have : e0.val = fld k := fldR_inv h4 (ps := y.2) (by rw [hRv, h1])
      rw [this]; rfl
    · exfalso
      have h1 := hat (.lit (.int .i64 0))
      have h2 := hat (.lit (.int .i64 1))
      rw [hD, if_neg h4] at h1 h2
      have := h1.trans h2.symm
      injection this with this
      injection this with _ this
      omega
/-- the words behind the first one. -/
theorem tail_run (b n : Nat) : ∃ o, (∀ W, Sem.run Tryz.prog (Instr.slice 43 (.slice (some ⟨b, 0, none⟩) (n + 1) (n + 1)) (some (.int .i64 1)) none none) W = .ok (.slice (some ⟨b, o, none⟩) n n) W) ∧ (n ≠ 0 → o = 1) := by
  by_cases h0 : n = 0
  · subst h0
    exact ⟨0, fun W => by go_simp, fun h => absurd rfl h⟩
  · refine ⟨1, fun W => ?_, fun _ => rfl⟩
    have h1 : ¬ n + 1 = 1 := by omega
    have h2 : ¬ (n : Int) + 1 < 1 := by omega
    go_simp
theorem Blk.own_kept {w w1 : World} {B base e size n : Nat} {T : TypeId} {vs xs : List Value} {v : Value} (h : Blk w B T vs) (ho : w.ownsRow base e size v n xs) (hT : T ≠ e) (hg : w.grownBy w1 v.ownBlock) : Blk w1 B T vs := by
  refine h.kept hg (fun hrow => ?_)
  obtain ⟨h1, h2⟩ := ho
  rcases h2 with ⟨rfl, h2⟩ | ⟨g, cap, cur, rfl, hg', hh, hr⟩
  · simp [Value.ownBlock] at hrow
  · simp [Value.ownBlock] at hrow
    subst hrow
    unfold Blk at h
    rw [hh] at h
    injection h with h
    injection h with _ h3 _
    exact hT h3.symm
theorem Vals.low {W W' : World} {u : Value} {us : List Value} {H : Nat} (h : Vals W u us) (hl : ∀ b off c, u = .slice (some ⟨b, off, none⟩) us.length c → b < H) (hb : Below H W W') : Vals W' u us := by
  obtain ⟨a, cp, rfl, hc, hv⟩ := h
  refine ⟨a, cp, rfl, hc, fun h0 => ?_⟩
  obtain ⟨b, off, rfl, hcs⟩ := hv h0
  refine ⟨b, off, rfl, fun j y hj => ?_⟩
  rw [hb.cell (p := ⟨b, off + j, none⟩) (hl b off cp rfl)]
  exact hcs j y hj
/-- the three results are set. -/
def sixW (W : World) (h : Nat) (a b c d v3 v4 : Value) : World := (((((W.setCell ⟨h, 0, none⟩ a).setCell ⟨h, 1, none⟩ b).setCell ⟨h, 2, none⟩ c).setCell ⟨h, 3, none⟩ d).setCell ⟨h + 1, 0, none⟩ v3).setCell ⟨h + 1 + 1, 0, none⟩ v4
theorem sixW_at (W : World) (h : Nat) (a b c d v3 v4 : Value) (k : Nat) (hk : k < h ∨ h + 2 < k) : (sixW W h a b c d v3 v4).heap[k]? = W.heap[k]? := by
  unfold sixW
  refine (Below.heap_setCell _ _ _ _ (by simp; omega)).trans ((Below.heap_setCell _ _ _ _ (by simp; omega)).trans ((Below.heap_setCell _ _ _ _ (by simp; omega)).trans ((Below.heap_setCell _ _ _ _ (by simp; omega)).trans ((Below.heap_setCell _ _ _ _ (by simp; omega)).trans (Below.heap_setCell _ _ _ _ (by simp; omega))))))
theorem sixW_size (W : World) (h : Nat) (a b c d v3 v4 : Value) : (sixW W h a b c d v3 v4).heap.size = W.heap.size := by simp [sixW]
set_option maxHeartbeats 2000000 in
theorem setSix {w W1 : World} {h : Nat} {T2 T3 T4 : TypeId} {o3 o4 : Value} (a b c d v3 v4 : Value) (b2 : Blk W1 h T2 zeroC) (b3 : Blk W1 (h + 1) T3 [o3]) (b4 : Blk W1 (h + 2) T4 [o4]) (hB : Below h w W1) :
    Blk (sixW W1 h a b c d v3 v4) h T2 [a, b, c, d] ∧ Blk (sixW W1 h a b c d v3 v4) (h + 1) T3 [v3] ∧ Blk (sixW W1 h a b c d v3 v4) (h + 2) T4 [v4] ∧ Below h w (sixW W1 h a b c d v3 v4) := by
  unfold sixW
  have x1 : h ≠ h + 1 := by omega
  have x2 : h ≠ h + 1 + 1 := by omega
  have y1 : h + 1 ≠ h := by omega
  have y2 : h + 1 ≠ h + 1 + 1 := by omega
  have z1 : h + 1 + 1 ≠ h := by omega
  have z2 : h + 1 + 1 ≠ h + 1 := by omega
  have b4' : Blk W1 (h + 1 + 1) T4 [o4] := b4
  refine ⟨?_, ?_, ?_, ?_⟩
  · have k1 := (((b2.set 0 a).set 1 b).set 2 c).set 3 d
    have k2 := (k1.other x1 (j := 0) v3).other x2 (j := 0) v4
    exact k2
  · have k1 := (((b3.other y1 (j := 0) a).other y1 (j := 1) b).other y1 (j := 2) c).other y1 (j := 3) d
    have k2 := (k1.set 0 v3).other y2 (j := 0) v4
    exact k2
  · have k1 := (((b4'.other z1 (j := 0) a).other z1 (j := 1) b).other z1 (j := 2) c).other z1 (j := 3) d
    have k2 := (k1.other z2 (j := 0) v3).set 0 v4
    exact k2
  · exact (((((hB.setCell (by simp) _).setCell (by simp) _).setCell (by simp) _).setCell (by simp) _).setCell (by simp) _).setCell (by simp; omega) _
/-- a wrong line's way out. -/
theorem exit_post {w W Wz : World} {m M B : Nat} (hBv : B = M + 2) (hM : w.heap.size + 5 ≤ M) {pre : List (Value × List UInt8)} {x : Value × List UInt8} {a : Act} {Kp : World → World → Prop} (hb : Below W.heap.size W Wz)
    (hgood : ∀ j y, pre[j]? = some y → lineN j y.2 ≠ none) (hbad : lineN pre.length x.2 = none) (b2 : Blk W w.heap.size 32 zeroC) (b3 : Blk W (w.heap.size + 1) 3 [.int .i64 0]) (b4 : Blk W (w.heap.size + 2) 27 [.int .i64 0])
    (hB : Below w.heap.size w W) :
    ownPostG B Kp (PInv w m M) (PEx w) (pre ++ [x]) W .ret a (sixW Wz w.heap.size (.slice none 0 0) (.slice none 0 0) (.slice none 0 0) (.slice none 0 0) (.int .i64 (pre.length : Int)) (.int .i64 25)).drew := by
  have b3' := b3.carry hb
  have b4' := b4.carry hb
  obtain ⟨h2, h3, h4, hB6⟩ := setSix (.slice none 0 0) (.slice none 0 0) (.slice none 0 0) (.slice none 0 0) (.int .i64 (pre.length : Int)) (.int .i64 25) (b2.carry hb) b3' b4' (bthen hB hb)
  subst hBv
  have hKs : W.heap.size ≤ (sixW Wz w.heap.size (.slice none 0 0) (.slice none 0 0) (.slice none 0 0) (.slice none 0 0) (.int .i64 (pre.length : Int)) (.int .i64 25)).heap.size := by rw [sixW_size]; exact hb.size
  have hKk : ∀ k o, M + 2 ≤ k → W.heap[k]? = some o → (sixW Wz w.heap.size (.slice none 0 0) (.slice none 0 0) (.slice none 0 0) (.slice none 0 0) (.int .i64 (pre.length : Int)) (.int .i64 25)).heap[k]? = some o := fun k o hk ho => by
    have hlt := (Array.getElem?_eq_some_iff.1 ho).1
    rw [sixW_at _ _ _ _ _ _ _ _ _ (by omega), hb.block k hlt]
    exact ho
  generalize sixW Wz w.heap.size (.slice none 0 0) (.slice none 0 0) (.slice none 0 0) (.slice none 0 0) (.int .i64 (pre.length : Int)) (.int .i64 25) = Z at h2 h3 h4 hB6 hKs hKk ⊢
  have hl : (pre ++ [x]).length - 1 = pre.length := by simp
  have hE : PEx w .ret (pre ++ [x]) Z.drew := ⟨⟨rfl, pre, x, rfl, hgood, hbad⟩, h2, by rw [hl]; exact h3, h4, hB6.drew⟩
  have hK : KeepsFrom (M + 2) W Z.drew := ⟨hKs, fun k o hk ho h => hKk k o hk ‹_›⟩
  exact ⟨hK, hE⟩
theorem polyN_snoc (ls : List (List UInt8)) (x : List UInt8) (j : Nat) : polyN (ls ++ [x]) j = if j = ls.length then (lineN j x).getD [] else polyN ls j := by
  unfold polyN
  by_cases h : j = ls.length
  · subst h
    rw [if_pos rfl, List.getElem?_append_right (Nat.le_refl _)]
    simp
  · rw [if_neg h]
    rcases Nat.lt_or_gt_of_ne h with h1 | h1
    · rw [List.getElem?_append_left h1]
    · rw [List.getElem?_eq_none (by simp; omega), List.getElem?_eq_none (by omega)]
theorem owni_setO {W : World} {e : TypeId} {base B j : Nat} {v x : Value} {l : List Int} (h : OwnI e base W v l) (hB : B < base) : OwnI e base (W.setCell ⟨B, j, none⟩ x) v l := ownsRow_setO h hB
/-- a right line. -/
theorem next_post {w W Wz : World} {m M B : Nat} (hBv : B = M + 2) (hM : w.heap.size + 5 ≤ M) {pre : List (Value × List UInt8)} {x : Value × List UInt8} {a : Act} {l : List Int} {cv : Value} (hb : Below W.heap.size W Wz)
    (hI : PInv w m M pre W) (hp : lineN pre.length x.2 = some l) (hcv : OwnI 3 (M + 2) Wz cv l) :
    ownPostG B (fun A B => B.heap[M + 1]? = A.heap[M + 1]?) (PInv w m M) (PEx w) (pre ++ [x]) W .normal a ((Wz.setCell ⟨w.heap.size + 3, pre.length, none⟩ cv).setCell ⟨w.heap.size + 4, 0, none⟩ (.int .i64 ((pre.length : Int) + 1))) := by
  obtain ⟨hgood, b2, b3, b4, ⟨vs, hv4, b5, hvs⟩, b6, b7, hmap, hB, hsz⟩ := hI
  have hp4 : pre.length < 4 := by
    rcases Nat.lt_or_ge pre.length 4 with h | h
    · exact h
    · rw [lineN_none h] at hp; cases hp
  have hk : ∀ k, k ≠ w.heap.size + 3 → k ≠ w.heap.size + 4 → ((Wz.setCell ⟨w.heap.size + 3, pre.length, none⟩ cv).setCell ⟨w.heap.size + 4, 0, none⟩ (.int .i64 ((pre.length : Int) + 1))).heap[k]? = Wz.heap[k]? := fun k h1 h2 =>
    (Below.heap_setCell _ _ _ _ (by simpa using h2)).trans (Below.heap_setCell _ _ _ _ (by simpa using h1))
  have hsW := hB.size
  have hm3 : m ≠ w.heap.size + 3 := by
    rintro rfl
    obtain ⟨es, clock, hc, _⟩ := hmap
    have := hc.symm.trans b5
    cases this
  have hm4 : m ≠ w.heap.size + 4 := by
    rintro rfl
    obtain ⟨es, clock, hc, _⟩ := hmap
    have := hc.symm.trans b6
    cases this
  have o : ∀ {k : Nat} {T : TypeId} {us : List Value}, Blk W k T us → k ≠ w.heap.size + 3 → k ≠ w.heap.size + 4 → Blk ((Wz.setCell ⟨w.heap.size + 3, pre.length, none⟩ cv).setCell ⟨w.heap.size + 4, 0, none⟩ (.int .i64 ((pre.length : Int) + 1))) k T us := fun h h1 h2 =>
    ((h.carry hb).other h1 _).other h2 _
  subst hBv
  refine ⟨⟨?_, fun k ob hk1 ho _ => ?_⟩, ?_, ?_, o b2 (by omega) (by omega), o b3 (by omega) (by omega), o b4 (by omega) (by omega), ⟨vs.set pre.length cv, by simpa using hv4, ?_, ?_⟩, ?_, o b7 (by omega) (by omega), ?_, ?_, ?_⟩
  · have := hb.size
    simp only [World.size_setCell]
    exact this
  · have hlt := (Array.getElem?_eq_some_iff.1 ‹W.heap[k]? = some ob›).1
    rw [hk k (by omega) (by omega), hb.block k hlt]
    assumption
  · show ((Wz.setCell ⟨w.heap.size + 3, pre.length, none⟩ cv).setCell ⟨w.heap.size + 4, 0, none⟩ (.int .i64 ((pre.length : Int) + 1))).heap[M + 1]? = W.heap[M + 1]?
    rw [hk _ (by omega) (by omega)]
    exact hb.block _ (by omega)
  · intro j y hy
    by_cases hj : j < pre.length
    · rw [List.getElem?_append_left hj] at hy
      exact hgood j y hy
    · have hjl := (List.getElem?_eq_some_iff.1 hy).1
      rw [List.length_append, List.length_singleton] at hjl
      obtain rfl : j = pre.length := by omega
      rw [List.getElem?_append_right (Nat.le_refl _)] at hy
      simp only [Nat.sub_self, List.getElem?_cons_zero, Option.some.injEq] at hy
      rw [← hy, hp]; simp
  · exact ((b5.carry hb).set pre.length cv).other (by omega) _
  · intro k v hk1
    rw [List.map_append, List.map_cons, List.map_nil, polyN_snoc, List.length_map]
    by_cases hkp : k = pre.length
    · subst hkp
      rw [if_pos rfl, hp]
      rw [List.getElem?_set_self (by omega)] at hk1
      cases hk1
      exact owni_setO (owni_setO hcv (by omega)) (by omega)
    · rw [if_neg hkp]
      rw [List.getElem?_set_ne (fun e => hkp e.symm)] at hk1
      exact owni_setO (owni_setO ((hvs k v hk1).carry hb) (by omega)) (by omega)
  · rw [show ((pre ++ [x]).length : Int) = (pre.length : Int) + 1 by simp]
    exact ((b6.carry hb).other (by omega) _).set 0 _
  · exact World.ownsMap.setCell (World.ownsMap.setCell (map_below hmap hb) (by simpa using hm3) _) (by simpa using hm4) _
  · exact ((bthen hB hb).setCell (by simp) _).setCell (by simp) _
  · have := hb.size
    simp only [World.size_setCell]
    omega
/-- what the test of a line says. -/
theorem line_verdict {np j : Nat} {xl p : List UInt8} {wt : List (List UInt8)} {whole is4 eqb wrong bad : Bool} {nm : ByteArray} {fv : Value}
    (hln : lineN np xl = if np < 4 ∧ whole = true then lineI (fldL np) (p :: wt) else none) (hfv : (if np < 4 then fld np else zeroF) = .agg #[.string nm, fv]) (his : is4 = decide (np < 4)) (heq : (p == nm.toList) = eqb) (hj : j = wt.length)
    (hwr : wrong = !wt.all sgOk) (hbad : bad = (!whole || (!is4 || (!eqb || (decide (j = 0) || wrong))))) :
    (bad = true → lineN np xl = none) ∧ (bad = false → lineN np xl = some (wt.map numV) ∧ np < 4 ∧ fv = .func (.func (fldF np)) #[] #[]) := by
  have hl : lineI (fldL np) (p :: wt) = if p = fldL np ∧ wt ≠ [] ∧ wt.all sgOk = true then some (wt.map sgV) else none := rfl
  rw [hl] at hln
  clear hl
  by_cases h4 : np < 4
  · rw [if_pos h4, fld_eq] at hfv
    simp only [Value.agg.injEq, Array.mk.injEq, List.cons.injEq, Value.string.injEq, and_true] at hfv
    obtain ⟨rfl, rfl⟩ := hfv
    rw [decide_eq_true h4] at his
    subst his
    have hnm : (fldName np).toList = fldL np := ByteArray.toList_eq _
    rw [hnm] at heq
    cases whole with
    | false =>
      refine ⟨fun _ => ?_, fun h => ?_⟩
      · rw [hln, if_neg (by simp)]
      · rw [hbad] at h; cases h
    | true =>
      rw [if_pos ⟨h4, rfl⟩] at hln
      cases eqb with
      | false =>
        have hne : ¬ p = fldL np := by simpa using heq
        refine ⟨fun _ => ?_, fun h => ?_⟩
        · rw [hln, if_neg (fun e => hne e.1)]
        · rw [hbad] at h; cases h
      | true =>
        have he : p = fldL np := by simpa using heq
        by_cases h0 : j = 0
        · rw [decide_eq_true h0] at hbad
          refine ⟨fun _ => ?_, fun h => ?_⟩
          · rw [hln, if_neg (fun e => e.2.1 (List.length_eq_zero_iff.1 (by omega)))]
          · rw [hbad] at h; cases h
        · rw [decide_eq_false h0] at hbad
          have hn0 : wt ≠ [] := fun e => h0 (by rw [hj, e]; rfl)
          cases ha : wt.all sgOk with
          | false =>
            rw [ha] at hwr hln
            refine ⟨fun _ => ?_, fun h => ?_⟩
            · rw [hln, if_neg (fun e => by cases e.2.2)]
            · rw [hbad, hwr] at h; cases h
          | true =>
            rw [ha] at hwr hln
            refine ⟨fun h => ?_, fun _ => ⟨?_, h4, rfl⟩⟩
            · rw [hbad, hwr] at h; cases h
            · rw [hln, if_pos ⟨he, hn0, rfl⟩]
              congr 1
              apply List.map_congr_left
              intro x hx
              exact (numV_ok (List.all_eq_true.1 ha x hx)).symm
  · rw [decide_eq_false h4] at his
    subst his
    rw [if_neg (fun e => h4 e.1)] at hln
    refine ⟨fun _ => hln, fun h => ?_⟩
    rw [hbad] at h
    cases whole <;> cases h
theorem blk_mark {W : World} {k D j : Nat} {T : TypeId} {vs : List Value} {v : Value} (b : Blk W k T vs) (hk : k < D) (hv : vs[j]? = some v) : (W.putObj D (.deferred none)).cell? ⟨k, j, none⟩ = some v :=
  (blk_own b (grownBy_putObj' W D (.deferred none)) (fun r e => by cases e; omega)).cell hv
theorem sixW_mark {w W1 : World} {h D : Nat} {T2 T3 T4 : TypeId} {o3 o4 : Value} {ob : Obj} (a b c d v3 v4 : Value) (b2 : Blk W1 h T2 zeroC) (b3 : Blk W1 (h + 1) T3 [o3]) (b4 : Blk W1 (h + 2) T4 [o4]) (hB : Below h w W1) (hD : h + 2 < D) (hK : W1.heap[D]? = some ob) :
    ∃ Z, Z = sixW W1 h a b c d v3 v4 ∧ Blk Z h T2 [a, b, c, d] ∧ Blk Z (h + 1) T3 [v3] ∧ Blk Z (h + 2) T4 [v4] ∧ Below h w Z ∧ Z.heap[D]? = some ob ∧ (∀ {base : Nat} {v : Value} {l : List Int}, h + 2 < base → OwnI 3 base W1 v l → OwnI 3 base Z v l) := by
  obtain ⟨h2, h3, h4, h5⟩ := setSix a b c d v3 v4 b2 b3 b4 hB
  refine ⟨_, rfl, h2, h3, h4, h5, ?_, fun hb ho => ?_⟩
  · rw [sixW_at _ _ _ _ _ _ _ _ _ (by omega)]; exact hK
  · exact owni_setO (owni_setO (owni_setO (owni_setO (owni_setO (owni_setO ho (by omega)) (by omega)) (by omega)) (by omega)) (by omega)) (by omega)
theorem owni_mark {W : World} {D base : Nat} {v : Value} {l : List Int} (h : OwnI 3 base W v l) (hK : W.heap[D]? = some (.deferred (some []))) : Ints (W.putObj D (.deferred none)) v l :=
  (owni_own h (grownBy_putObj' W D (.deferred none)) (fun r g e hv e2 => by
    cases e
    subst e2
    have := ownsRow_cells h hv hK
    cases this)).ints
end Go.Proofs.YtfdehcphmmhjaaaGreatDoor

/- Texts of logs: the program's Parse, facts of its rounds. -/
import Derived.Test.YtpmngcffkhbofaaGreatDoorVnH
import Derived.Test.YtpmngcffkhbofaaGreatDoorVbC
import Derived.Laws.EntriesVeiled
import Derived.Sort.CutIn
namespace Go.Proofs.YtpmngcffkhbofaaGreatDoor
section
set_option linter.unusedSimpArgs false
set_option linter.unusedVariables false
open Go.RowKit
theorem enter1 (args : Array Value) (w : World) : (callFunc 106 args).run Tryz.prog w = .ok (.enter 106 args) w := enters_of Tryz.func106 (by kernel_rfl) rfl args w
theorem enter2 (args : Array Value) (w : World) : (callFunc 107 args).run Tryz.prog w = .ok (.enter 107 args) w := enters_of Tryz.func107 (by kernel_rfl) rfl args w
/-- the form of a line. -/
def formV : Nat → Value
 | 0 => .agg #[.string logS, .int .i64 1, .func (.func 106) #[] #[]]
 | _ + 1 => .agg #[.string pulseS, .int .i64 2, .func (.func 107) #[] #[]]
theorem lineN_body' {k : Nat} {x : List UInt8} (h : endsL x = true) : lineN k x = lineI (fldL k) (cntL k) (splitC 32 (bodyL x)) := by
 unfold lineN
 rw [if_pos h]
/-- a line is read into the log at B. -/
def LineAt (B : Nat) (ls : List (List UInt8)) (W : World) : Prop := ∃ tv, Blk W B 32 [.int .i64 (ctlL ls), tv] ∧ OwR W (B + 3) 104 2 pV tv (trnT ls)
theorem LineAt.carry {B : Nat} {ls : List (List UInt8)} {W W' : World} (h : LineAt B ls W) (hb : Below W.heap.size W W') : LineAt B ls W' := by
 obtain ⟨tv, h1, h2⟩ := h
 exact ⟨tv, h1.carry hb, h2.carry hb⟩
theorem readL_any (B : Nat) (ls : List (List UInt8)) (x bd : List UInt8) (W : World) (hx : endsL x = true) (hbx : bodyL x = bd) (hL : LineAt B ls W) (hs : B + 3 ≤ W.heap.size) (hl : bd.length ≤ 1000000) (hls : ls.length ≤ 1000000) (hM : MaxL W) :
 Calls Tryz.prog 50 #[formV ls.length, .pointer (some ⟨B, 0, none⟩), .string ⟨bd.toArray⟩] W fun e W' => ∃ ok, e = .returned (.bool ok) ∧ Keep (fun k => k = B ∨ B + 3 ≤ k) W W' ∧
  (ok = false → lineN ls.length x = none) ∧ (ok = true → lineN ls.length x ≠ none ∧ LineAt B (ls ++ [x]) W') := by
 obtain ⟨tv, hB, ho⟩ := hL
 have hfin := lineN_body' (k := ls.length) hx
 rw [hbx] at hfin
 by_cases h0 : ls = []
 ·subst h0
  have hr := read_any B 106 1 (fldL 0) bd (fun l W2 => ∃ y, l = [y] ∧ Blk W2 B 32 [.int .i64 y, tv] ∧ OwR W2 (B + 3) 104 2 pV tv [] ∧ Keep (fun k => k = B ∨ B + 3 ≤ k) W W2) W hl hM (by decide) (by decide) (Blk.lt hB) enter1
   (fun nv l W1 bn hb hn hlen => by
     obtain ⟨y, rfl⟩ := (show ∃ y, l = [y] by match l, hlen with | [y], _ => exact ⟨y, rfl⟩)
     refine (put1_any B _ tv nv y W1 (hB.carry hb) hn.ints).mono ?_
     rintro e W2 ⟨rfl, rfl⟩
     exact ⟨rfl, ⟨y, rfl, (hB.carry hb).set 0 _, ownsRow_setO (ho.carry hb) (by omega), (Keep.of_below hb).setCell (hB.carry hb) (.inl rfl) _⟩, fun b vs hne hbk => hbk.other hne _⟩)
  refine hr.mono ?_
  rintro e W' (⟨rfl, hnone, hb⟩ | ⟨l, ok, rfl, ⟨y, rfl, hB2, ho2, hk2⟩, h1, h2⟩)
  ·exact ⟨false, rfl, Keep.of_below hb, fun _ => hfin.trans hnone, fun h => by cases h⟩
  ·refine ⟨ok, rfl, hk2, fun h => hfin.trans (h2 h), fun h => ?_⟩
   have e1 : lineN 0 x = some [y] := hfin.trans (h1 h)
   have hc : ctlL ([] ++ [x]) = y := by
    unfold ctlL polyN
    simp only [List.nil_append, List.getElem?_cons_zero, Option.bind_some]
    rw [e1]; rfl
   refine ⟨by rw [show ([] : List (List UInt8)).length = 0 from rfl, e1]; simp, tv, ?_, ?_⟩
   ·rw [hc]; exact hB2
   ·exact ho2
 ·obtain ⟨m, hm⟩ : ∃ m, ls.length = m + 1 := ⟨ls.length - 1, by have := List.length_pos_iff.2 h0; omega⟩
  have hr := read_any B 107 2 (fldL 1) bd (fun l W2 => ∃ y z tv', l = [y, z] ∧ Blk W2 B 32 [.int .i64 (ctlL ls), tv'] ∧ OwR W2 (B + 3) 104 2 pV tv' (trnT ls ++ [(y, z)]) ∧ Keep (fun k => k = B ∨ B + 3 ≤ k) W W2) W hl hM (by decide) (by decide) (Blk.lt hB) enter2
   (fun nv l W1 bn hb hn hlen => by
     obtain ⟨y, z, rfl⟩ := (show ∃ y z, l = [y, z] by match l, hlen with | [y, z], _ => exact ⟨y, z, rfl⟩)
     refine (put2_any (B + 3) B _ tv nv (trnT ls) y z W1 (hB.carry hb) (by omega) (by have := hb.size; omega) (ho.carry hb) (by rw [trnT_len]; omega) bn hn).mono ?_
     rintro e W2 ⟨rfl, tv', g1, g2, g3, g4⟩
     exact ⟨rfl, ⟨y, z, tv', rfl, g1, g2, (Keep.of_below hb).trans g3⟩, g4⟩)
  rw [hm] at hfin ⊢
  refine hr.mono ?_
  rintro e W' (⟨rfl, hnone, hb⟩ | ⟨l, ok, rfl, ⟨y, z, tv', rfl, hB2, ho2, hk2⟩, h1, h2⟩)
  ·exact ⟨false, rfl, Keep.of_below hb, fun _ => hfin.trans hnone, fun h => by cases h⟩
  ·refine ⟨ok, rfl, hk2, fun h => hfin.trans (h2 h), fun h => ?_⟩
   have e1 : lineN (m + 1) x = some [y, z] := hfin.trans (h1 h)
   refine ⟨by rw [e1]; simp, tv', ?_, ?_⟩
   ·rw [ctlL_snoc h0]; exact hB2
   ·rw [trnT_snoc h0, hm, e1]
    exact ho2
/-- what holds as the lines so far are read. -/
def PInv (w : World) (B : Nat) (pre : List (Value × List UInt8)) (W : World) : Prop :=
 (∀ j x, pre[j]? = some x → lineN j x.2 ≠ none) ∧ Blk W w.heap.size 32 [.int .i64 0, .slice none 0 0] ∧ Blk W (w.heap.size + 1) 3 [.int .i64 0] ∧ Blk W (w.heap.size + 2) 27 [.int .i64 0] ∧
   Blk W (B + 1) 3 [.int .i64 (pre.length : Int)] ∧ LineAt B (pre.map Prod.snd) W ∧ Below w.heap.size w W ∧ B + 3 ≤ W.heap.size
/-- what a wrong line leaves. -/
def PEx (w : World) (c : Code) (pre : List (Value × List UInt8)) (W : World) : Prop :=
 (c = .ret ∧ ∃ pre' x, pre = pre' ++ [x] ∧ (∀ j y, pre'[j]? = some y → lineN j y.2 ≠ none) ∧ lineN pre'.length x.2 = none) ∧ Blk W w.heap.size 32 [.int .i64 0, .slice none 0 0] ∧ Blk W (w.heap.size + 1) 3 [.int .i64 ((pre.length - 1 : Nat) : Int)] ∧
   Blk W (w.heap.size + 2) 27 [.int .i64 25] ∧ Below w.heap.size w W
theorem LineAt.own {A W' : World} {row : Option Nat} {B : Nat} {ls : List (List UInt8)} (h : LineAt B ls A) (hg : A.grownBy W' row) (hB : ∀ r, row = some r → B ≠ r) (hr : ∀ r g, row = some r → (B + 3 ≤ g ∧ ∃ o, A.heap[g]? = some o ∧ o.isCells = true) → r ≠ g) : LineAt B ls W' := by
 obtain ⟨tv, h1, h2⟩ := h
 refine ⟨tv, blk_own h1 hg hB, own_own h2 hg (fun r g e hv => hr r g e ?_)⟩
 have hlt := World.ownsRow.lt h2 g hv
 exact ⟨hlt.1, _, Array.getElem?_eq_getElem hlt.2, ownsRow_cellsT h2 hv (Array.getElem?_eq_getElem hlt.2)⟩
theorem PInv.own (w : World) {B H : Nat} (hB : w.heap.size + 3 ≤ B) (hH : w.heap.size ≤ H) : OwnFrom H (PInv w B) := by
 rintro pre A W' row ⟨h1, h2, h3, h4, h5, h6, h8, h9⟩ hg hr
 have hb : ∀ {k : Nat} {T : TypeId} {vs : List Value}, Blk A k T vs → Blk W' k T vs := fun hk => blk_own hk hg (fun r e => ne_of_blk hk (hr r e).2)
 refine ⟨h1, hb h2, hb h3, hb h4, hb h5, h6.own hg (fun r e => ?_) (fun r g e ⟨_, o, ho, hc⟩ e2 => ?_), below_grown h8 hg (fun r e => by have := (hr r e).1; omega) (Nat.le_refl _), Nat.le_trans h9 hg.size⟩
 ·obtain ⟨tv, hL, _⟩ := h6
  exact ne_of_blk hL (hr r e).2
 ·obtain ⟨_, o2, ho2, hc2⟩ := hr r e
  subst e2
  rw [ho] at ho2; cases ho2
  rw [hc] at hc2; cases hc2
theorem PInv.write (w : World) (B : Nat) (hB : w.heap.size + 3 ≤ B) (pre : List (Value × List UInt8)) (A W' : World) (h : PInv w B pre A) (hg : A.grownBy W' (some (B + 2))) : PInv w B pre W' := by
 obtain ⟨h1, h2, h3, h4, h5, h6, h8, h9⟩ := h
 have hb : ∀ {k : Nat} {T : TypeId} {vs : List Value}, Blk A k T vs → k ≠ B + 2 → Blk W' k T vs := fun hk hn => blk_own hk hg (fun r e => by cases e; exact hn)
 exact ⟨h1, hb h2 (by omega), hb h3 (by omega), hb h4 (by omega), hb h5 (by omega), h6.own hg (fun r e => by cases e; omega) (fun r g e ⟨h, _⟩ => by cases e; omega), below_grown h8 hg (fun r e => by cases e; omega) (Nat.le_refl _), Nat.le_trans h9 hg.size⟩
theorem PEx.own (w : World) {H : Nat} (hH : w.heap.size ≤ H) (c : Code) : OwnFrom H (PEx w c) := by
 rintro pre A W' row ⟨h1, h2, h3, h4, h8⟩ hg hr
 have hb : ∀ {k : Nat} {T : TypeId} {vs : List Value}, Blk A k T vs → Blk W' k T vs := fun hk => blk_own hk hg (fun r e => ne_of_blk hk (hr r e).2)
 exact ⟨h1, hb h2, hb h3, hb h4, below_grown h8 hg (fun r e => by have := (hr r e).1; omega) (Nat.le_refl _)⟩
def fourW (W : World) (h : Nat) (a b v3 v4 : Value) : World := (((W.setCell ⟨h, 0, none⟩ a).setCell ⟨h, 1, none⟩ b).setCell ⟨h + 1, 0, none⟩ v3).setCell ⟨h + 1 + 1, 0, none⟩ v4
theorem fourW_at (W : World) (h : Nat) (a b v3 v4 : Value) (k : Nat) (hk : k < h ∨ h + 2 < k) : (fourW W h a b v3 v4).heap[k]? = W.heap[k]? := by
 unfold fourW
 refine (Below.heap_setCell _ _ _ _ (by simp; omega)).trans ((Below.heap_setCell _ _ _ _ (by simp; omega)).trans ((Below.heap_setCell _ _ _ _ (by simp; omega)).trans (Below.heap_setCell _ _ _ _ (by simp; omega))))
theorem fourW_size (W : World) (h : Nat) (a b v3 v4 : Value) : (fourW W h a b v3 v4).heap.size = W.heap.size := by simp [fourW]
theorem setFour {w W1 : World} {h : Nat} {T2 T3 T4 : TypeId} {o1 o2 o3 o4 : Value} (a b v3 v4 : Value) (b2 : Blk W1 h T2 [o1, o2]) (b3 : Blk W1 (h + 1) T3 [o3]) (b4 : Blk W1 (h + 2) T4 [o4]) (hB : Below h w W1) :
 Blk (fourW W1 h a b v3 v4) h T2 [a, b] ∧ Blk (fourW W1 h a b v3 v4) (h + 1) T3 [v3] ∧ Blk (fourW W1 h a b v3 v4) (h + 2) T4 [v4] ∧ Below h w (fourW W1 h a b v3 v4) := by
 unfold fourW
 have x1 : h ≠ h + 1 := by omega
 have x2 : h ≠ h + 1 + 1 := by omega
 have y1 : h + 1 ≠ h := by omega
 have y2 : h + 1 ≠ h + 1 + 1 := by omega
 have z1 : h + 1 + 1 ≠ h := by omega
 have z2 : h + 1 + 1 ≠ h + 1 := by omega
 have b4' : Blk W1 (h + 1 + 1) T4 [o4] := b4
 refine ⟨?_, ?_, ?_, ?_⟩
 ·exact ((((b2.set 0 a).set 1 b).other x1 (j := 0) v3).other x2 (j := 0) v4)
 ·exact ((((b3.other y1 (j := 0) a).other y1 (j := 1) b).set 0 v3).other y2 (j := 0) v4)
 ·exact ((((b4'.other z1 (j := 0) a).other z1 (j := 1) b).other z2 (j := 0) v3).set 0 v4)
 ·exact (((hB.setCell (by simp) _).setCell (by simp) _).setCell (by simp) _).setCell (by simp; omega) _
/-- a wrong line's way out. -/
theorem exit_post {w W Wz : World} {B D : Nat} (hD : D = B + 3) (hB3 : w.heap.size + 3 ≤ B) {pre : List (Value × List UInt8)} {x : Value × List UInt8} {a : Act} {Kp : World → World → Prop} (hk : Keep (fun k => k = B ∨ B + 3 ≤ k) W Wz) (hbad : lineN pre.length x.2 = none) (hI : PInv w B pre W) :
 ownPostG D Kp (PInv w B) (PEx w) (pre ++ [x]) W .ret a (fourW Wz w.heap.size (.int .i64 0) (.slice none 0 0) (.int .i64 (pre.length : Int)) (.int .i64 25)).drew := by
 obtain ⟨hgood, b2, b3, b4, b5, hL, hB, hsz⟩ := hI
 have hBz : Below w.heap.size w Wz := hB.trans (hk.below (fun k hk => by omega) hB.size)
 obtain ⟨h2, h3, h4, hB6⟩ := setFour (.int .i64 0) (.slice none 0 0) (.int .i64 (pre.length : Int)) (.int .i64 25) (hk.blk b2 (by omega)) (hk.blk b3 (by omega)) (hk.blk b4 (by omega)) hBz
 subst hD
 have hKs : W.heap.size ≤ (fourW Wz w.heap.size (.int .i64 0) (.slice none 0 0) (.int .i64 (pre.length : Int)) (.int .i64 25)).heap.size := by rw [fourW_size]; exact hk.size
 have hKk : KeepsFrom (B + 3) W (fourW Wz w.heap.size (.int .i64 0) (.slice none 0 0) (.int .i64 (pre.length : Int)) (.int .i64 25)) := (hk.from _).trans ⟨by rw [fourW_size]; exact Nat.le_refl _, fun k o hk2 ho _ => by rw [fourW_at _ _ _ _ _ _ _ (by omega)]; exact ho⟩
 generalize fourW Wz w.heap.size (.int .i64 0) (.slice none 0 0) (.int .i64 (pre.length : Int)) (.int .i64 25) = Z at h2 h3 h4 hB6 hKs hKk ⊢
 have hl : (pre ++ [x]).length - 1 = pre.length := by simp
 exact ⟨⟨hKk.1, hKk.2⟩, ⟨rfl, pre, x, rfl, hgood, hbad⟩, h2, by rw [hl]; exact h3, h4, hB6.drew⟩
/-- a right line. -/
theorem next_post {w W Wz : World} {B D : Nat} (hD : D = B + 3) (hB3 : w.heap.size + 3 ≤ B) {pre : List (Value × List UInt8)} {x : Value × List UInt8} {a : Act} (hk : Keep (fun k => k = B ∨ B + 3 ≤ k) W Wz) (hp : lineN pre.length x.2 ≠ none) (hI : PInv w B pre W)
 (bs : ∃ o : Obj, W.heap[B + 2]? = some o) (hL : LineAt B (pre.map Prod.snd ++ [x.2]) Wz) :
 ownPostG D (fun A C => C.heap[B + 2]? = A.heap[B + 2]?) (PInv w B) (PEx w) (pre ++ [x]) W .normal a (Wz.setCell ⟨B + 1, 0, none⟩ (.int .i64 ((pre.length : Int) + 1))) := by
 obtain ⟨hgood, b2, b3, b4, b5, hL0, hB, hsz⟩ := hI
 have hBz : Below w.heap.size w Wz := hB.trans (hk.below (fun k hk => by omega) hB.size)
 have c2 := hk.blk b2 (by omega)
 have c3 := hk.blk b3 (by omega)
 have c4 := hk.blk b4 (by omega)
 have c5 := hk.blk b5 (by omega)
 subst hD
 refine ⟨(hk.from _).trans ⟨by simp, fun k o hk ho _ => (Below.heap_setCell _ _ _ _ (by simp; omega)).trans ho⟩, ?_, ?_, ?_, ?_, ?_, ?_, ?_, ?_, ?_⟩
 ·obtain ⟨o, ho⟩ := bs
  show (Wz.setCell ⟨B + 1, 0, none⟩ (.int .i64 ((pre.length : Int) + 1))).heap[B + 2]? = W.heap[B + 2]?
  rw [ho]
  exact (Below.heap_setCell _ _ _ _ (by simp)).trans (hk.same _ o ho (.inl (by omega)))
 ·intro j y hy
  by_cases hj : j < pre.length
  ·rw [List.getElem?_append_left hj] at hy
   exact hgood j y hy
  ·have hjl := (List.getElem?_eq_some_iff.1 hy).1
   rw [List.length_append, List.length_singleton] at hjl
   obtain rfl : j = pre.length := by omega
   rw [List.getElem?_append_right (Nat.le_refl _)] at hy
   simp only [Nat.sub_self, List.getElem?_cons_zero, Option.some.injEq] at hy
   rw [← hy]; exact hp
 ·exact c2.other (by omega) _
 ·exact c3.other (by omega) _
 ·exact c4.other (by omega) _
 ·rw [show ((pre ++ [x]).length : Int) = (pre.length : Int) + 1 by simp]
  exact c5.set 0 _
 ·obtain ⟨tv, g1, g2⟩ := hL
  rw [List.map_append]
  exact ⟨tv, g1.other (by omega) _, ownsRow_setO g2 (by omega)⟩
 ·exact hBz.setCell (by simp; omega) _
 ·have := hk.size
  simp; omega
end
section
set_option linter.unusedSimpArgs false
set_option linter.unusedVariables false
open Go.RowKit
theorem form_ix0 (s0 s1 : ByteArray) (f0 f1 : Value) (W : World) : Sem.run Tryz.prog (Instr.index 101 (.agg #[.string s0, .int .i64 1, f0, .string s1, .int .i64 2, f1]) (.int .i64 0)) W = .ok (.agg #[.string s0, .int .i64 1, f0]) W := by
 simp [Instr.index, run_underlying Tryz.undA2f, asIntOf, go_sem]
theorem form_ix1 (s0 s1 : ByteArray) (f0 f1 : Value) (W : World) : Sem.run Tryz.prog (Instr.index 101 (.agg #[.string s0, .int .i64 1, f0, .string s1, .int .i64 2, f1]) (.int .i64 1)) W = .ok (.agg #[.string s1, .int .i64 2, f1]) W := by
 kernel_rfl
attribute [local go_sem] Oper.semAt_some
set_option maxRecDepth 100000 in
set_option maxHeartbeats 16000000 in
theorem Parse_any (s : ByteArray) (w : World) (hs : s.size ≤ 100000) (hM : MaxL w) (hH : Heads w) :
 Calls Tryz.prog 9 #[.string s] w fun e W' => ParsePost s.data.toList e W' ∧ Below w.heap.size w W' := by
 have HM := Lib.hid hM
 have HH := Lib.hid hH
 clear hM hH
 obtain ⟨L, hL⟩ : ∃ L, L = s.data.toList := ⟨_, rfl⟩
 have hsL : s = ⟨L.toArray⟩ := baEq (by rw [hL])
 rw [← hL]
 clear hL
 subst hsL
 rw [mk_size] at hs
 have hLn : (⟨L.toArray⟩ : ByteArray).size = L.length := mk_size L
 refine calls_of_postR Tryz.func9 rfl ?_
 simp only [Tryz.ntmps9, List.size_toArray, List.length_cons, List.length_nil, Nat.reduceAdd, Nat.reduceSub, Array.replicate_succ, Array.replicate_zero, List.push_toArray, List.append_toArray, List.nil_append, List.cons_append]
 by_cases hlt : 4096 < L.length
 ·have hlt' : 4096 < (L.length : Int) := by omega
  have hemp2 : L.isEmpty = false := by
   cases L with
   | nil => simp at hlt
   | cons a b => rfl
  have hemp3 : (L == []) = false := by
   cases L with
   | nil => simp at hlt
   | cons a b => rfl
  have HP := Lib.hid (par_long hlt)
  go_upto_region 1 with fail
  obtain ⟨W1, hW1⟩ : ∃ v, v = World.alloc w (Obj.cells #[.int .i64 0, .slice none 0 0] 32) := ⟨_, rfl⟩
  have kW1 : Below w.heap.size w W1 := by rw [hW1]; exact below_new _ _
  have iW1 : Blk W1 (w.heap.size) 32 [.int .i64 0, .slice none 0 0] := by rw [hW1]; exact Blk.new _ _ _
  have sW1 : W1.heap.size = w.heap.size + 1 := by rw [hW1]; simp
  rw [← hW1]
  clear hW1
  obtain ⟨W2, hW2⟩ : ∃ v, v = World.alloc W1 (Obj.cells #[.int .i64 0] 3) := ⟨_, rfl⟩
  have kW2 : Below W1.heap.size W1 W2 := by rw [hW2]; exact below_new _ _
  have iW2 : Blk W2 (w.heap.size + 1) 3 [.int .i64 0] := by rw [hW2, ← sW1]; exact Blk.new _ _ _
  have sW2 : W2.heap.size = w.heap.size + 1 + 1 := by rw [hW2]; simp [sW1]
  rw [← hW2]
  clear hW2
  obtain ⟨W3, hW3⟩ : ∃ v, v = World.alloc W2 (Obj.cells #[.int .i64 0] 27) := ⟨_, rfl⟩
  have kW3 : Below W2.heap.size W2 W3 := by rw [hW3]; exact below_new _ _
  have iW3 : Blk W3 (w.heap.size + 1 + 1) 27 [.int .i64 0] := by rw [hW3, ← sW2]; exact Blk.new _ _ _
  have sW3 : W3.heap.size = w.heap.size + 1 + 1 + 1 := by rw [hW3]; simp [sW2]
  rw [← hW3]
  clear hW3
  have b2 := (iW1.carry kW2).carry kW3
  have b3 := iW2.carry kW3
  have b4 := iW3
  have hB3 : Below w.heap.size w W3 := bthen (bthen kW1 kW2) kW3
  clear kW1 kW2 kW3 sW1 sW2 sW3 iW1 iW2 iW3
  go_wp2_with fail
  refine (when_any true 26 W3).mono ?_
  rintro e w' ⟨rfl, rfl⟩
  go_wp2_with fail
  refine (when_any false 25 W3).mono ?_
  rintro e w' ⟨rfl, rfl⟩
  rw [show whenE true 26 = 26 from rfl, show whenE false 25 = 0 from rfl]
  have F2 := Lib.hid (first2 26 0 27 W3)
  have hk := below_new W3 (.cells #[.int .i64 26, .int .i64 0] 27)
  have b2 := b2.carry hk
  have b3 := b3.carry hk
  have b4 := b4.carry hk
  have hB4 := bthen hB3 hk
  rw [show firstE [26, 0] = 26 from rfl] at F2
  clear hk hB3
  go_wp2_with fail
  refine F2.out.mono ?_
  rintro e w' ⟨rfl, rfl⟩
  obtain ⟨V, hV⟩ : ∃ v, v = W3.alloc (.cells #[.int .i64 26, .int .i64 0] 27) := ⟨_, rfl⟩
  rw [← hV] at b2 b3 b4 hB4 ⊢
  clear hV F2
  have c2 := b2.cell (j := 0) (v := .int .i64 0) rfl
  have c2b := b2.cell (j := 1) (v := .slice none 0 0) rfl
  have c3 := b3.cell (j := 0) (v := .int .i64 0) rfl
  have c4 := b4.cell (j := 0) (v := .int .i64 0) rfl
  have f2 := b2.frozen 0
  have f2b := b2.frozen 1
  have f3 := b3.frozen 0
  have f4 := b4.frozen 0
  go_wp2
  obtain ⟨h2, h3, h4, hB6⟩ := setFour (.int .i64 0) (.slice none 0 0) (.int .i64 0) (.int .i64 26) b2 b3 b4 hB4
  have e2 := h2.cell (j := 0) (v := .int .i64 0) rfl
  have e2b := h2.cell (j := 1) (v := .slice none 0 0) rfl
  have e3 := h3.cell (j := 0) (v := .int .i64 0) rfl
  have e4 := h4.cell (j := 0) (v := .int .i64 26) rfl
  unfold fourW at e2 e2b e3 e4 hB6
  refine postR_ret (v := .tuple #[.agg #[.int .i64 0, .slice none 0 0], .int .i64 0, .int .i64 26]) ?_ rfl ⟨ParsePost.zero HP.out _, hB6⟩
  simp [results, Tryz.f9, go_sem, e2, e2b, e3, e4]
 by_cases hnil : L = []
 ·subst hnil
  have HP := Lib.hid (par_nil (L := []) rfl)
  go_upto_region 1 with fail
  obtain ⟨W1, hW1⟩ : ∃ v, v = World.alloc w (Obj.cells #[.int .i64 0, .slice none 0 0] 32) := ⟨_, rfl⟩
  have kW1 : Below w.heap.size w W1 := by rw [hW1]; exact below_new _ _
  have iW1 : Blk W1 (w.heap.size) 32 [.int .i64 0, .slice none 0 0] := by rw [hW1]; exact Blk.new _ _ _
  have sW1 : W1.heap.size = w.heap.size + 1 := by rw [hW1]; simp
  rw [← hW1]
  clear hW1
  obtain ⟨W2, hW2⟩ : ∃ v, v = World.alloc W1 (Obj.cells #[.int .i64 0] 3) := ⟨_, rfl⟩
  have kW2 : Below W1.heap.size W1 W2 := by rw [hW2]; exact below_new _ _
  have iW2 : Blk W2 (w.heap.size + 1) 3 [.int .i64 0] := by rw [hW2, ← sW1]; exact Blk.new _ _ _
  have sW2 : W2.heap.size = w.heap.size + 1 + 1 := by rw [hW2]; simp [sW1]
  rw [← hW2]
  clear hW2
  obtain ⟨W3, hW3⟩ : ∃ v, v = World.alloc W2 (Obj.cells #[.int .i64 0] 27) := ⟨_, rfl⟩
  have kW3 : Below W2.heap.size W2 W3 := by rw [hW3]; exact below_new _ _
  have iW3 : Blk W3 (w.heap.size + 1 + 1) 27 [.int .i64 0] := by rw [hW3, ← sW2]; exact Blk.new _ _ _
  have sW3 : W3.heap.size = w.heap.size + 1 + 1 + 1 := by rw [hW3]; simp [sW2]
  rw [← hW3]
  clear hW3
  have b2 := (iW1.carry kW2).carry kW3
  have b3 := iW2.carry kW3
  have b4 := iW3
  have hB3 : Below w.heap.size w W3 := bthen (bthen kW1 kW2) kW3
  clear kW1 kW2 kW3 sW1 sW2 sW3 iW1 iW2 iW3
  go_wp2_with fail
  refine (when_any false 26 W3).mono ?_
  rintro e w' ⟨rfl, rfl⟩
  go_wp2_with fail
  refine (when_any true 25 W3).mono ?_
  rintro e w' ⟨rfl, rfl⟩
  rw [show whenE false 26 = 0 from rfl, show whenE true 25 = 25 from rfl]
  have F2 := Lib.hid (first2 0 25 27 W3)
  have hk := below_new W3 (.cells #[.int .i64 0, .int .i64 25] 27)
  have b2 := b2.carry hk
  have b3 := b3.carry hk
  have b4 := b4.carry hk
  have hB4 := bthen hB3 hk
  rw [show firstE [0, 25] = 25 from rfl] at F2
  clear hk hB3
  go_wp2_with fail
  refine F2.out.mono ?_
  rintro e w' ⟨rfl, rfl⟩
  obtain ⟨V, hV⟩ : ∃ v, v = W3.alloc (.cells #[.int .i64 0, .int .i64 25] 27) := ⟨_, rfl⟩
  rw [← hV] at b2 b3 b4 hB4 ⊢
  clear hV F2
  have c2 := b2.cell (j := 0) (v := .int .i64 0) rfl
  have c2b := b2.cell (j := 1) (v := .slice none 0 0) rfl
  have c3 := b3.cell (j := 0) (v := .int .i64 0) rfl
  have c4 := b4.cell (j := 0) (v := .int .i64 0) rfl
  have f2 := b2.frozen 0
  have f2b := b2.frozen 1
  have f3 := b3.frozen 0
  have f4 := b4.frozen 0
  go_wp2
  obtain ⟨h2, h3, h4, hB6⟩ := setFour (.int .i64 0) (.slice none 0 0) (.int .i64 0) (.int .i64 25) b2 b3 b4 hB4
  have e2 := h2.cell (j := 0) (v := .int .i64 0) rfl
  have e2b := h2.cell (j := 1) (v := .slice none 0 0) rfl
  have e3 := h3.cell (j := 0) (v := .int .i64 0) rfl
  have e4 := h4.cell (j := 0) (v := .int .i64 25) rfl
  unfold fourW at e2 e2b e3 e4 hB6
  refine postR_ret (v := .tuple #[.agg #[.int .i64 0, .slice none 0 0], .int .i64 0, .int .i64 25]) ?_ rfl ⟨ParsePost.zero HP.out _, hB6⟩
  simp [results, Tryz.f9, go_sem, e2, e2b, e3, e4]
 have hlt' : ¬ 4096 < (L.length : Int) := by omega
 have hemp2 : L.isEmpty = false := by
  cases L with
  | nil => exact absurd rfl hnil
  | cons a b => rfl
 have hemp3 : (L == []) = false := by
  cases L with
  | nil => exact absurd rfl hnil
  | cons a b => rfl
 have HBADP := Lib.hid (fun (n : Nat) (hb : badN (linesL L) = some n) => par_bad hlt hnil hb)
 have HNOP := Lib.hid (fun c l m E hb hc hl hm hE hE0 => par_no (L := L) (c := c) (l := l) (m := m) (E := E) hlt hnil hb hc hl hm hE hE0)
 have HOKP := Lib.hid (fun c l hb hc hl hE => par_ok (L := L) (c := c) (l := l) hlt hnil hb hc hl hE)
 go_upto_region 1 with fail
 obtain ⟨W1, hW1⟩ : ∃ v, v = World.alloc w (Obj.cells #[.int .i64 0, .slice none 0 0] 32) := ⟨_, rfl⟩
 have kW1 : Below w.heap.size w W1 := by rw [hW1]; exact below_new _ _
 have iW1 : Blk W1 (w.heap.size) 32 [.int .i64 0, .slice none 0 0] := by rw [hW1]; exact Blk.new _ _ _
 have sW1 : W1.heap.size = w.heap.size + 1 := by rw [hW1]; simp
 rw [← hW1]
 clear hW1
 obtain ⟨W2, hW2⟩ : ∃ v, v = World.alloc W1 (Obj.cells #[.int .i64 0] 3) := ⟨_, rfl⟩
 have kW2 : Below W1.heap.size W1 W2 := by rw [hW2]; exact below_new _ _
 have iW2 : Blk W2 (w.heap.size + 1) 3 [.int .i64 0] := by rw [hW2, ← sW1]; exact Blk.new _ _ _
 have sW2 : W2.heap.size = w.heap.size + 1 + 1 := by rw [hW2]; simp [sW1]
 rw [← hW2]
 clear hW2
 obtain ⟨W3, hW3⟩ : ∃ v, v = World.alloc W2 (Obj.cells #[.int .i64 0] 27) := ⟨_, rfl⟩
 have kW3 : Below W2.heap.size W2 W3 := by rw [hW3]; exact below_new _ _
 have iW3 : Blk W3 (w.heap.size + 1 + 1) 27 [.int .i64 0] := by rw [hW3, ← sW2]; exact Blk.new _ _ _
 have sW3 : W3.heap.size = w.heap.size + 1 + 1 + 1 := by rw [hW3]; simp [sW2]
 rw [← hW3]
 clear hW3
 have b2 := (iW1.carry kW2).carry kW3
 have b3 := iW2.carry kW3
 have b4 := iW3
 have hB3 : Below w.heap.size w W3 := bthen (bthen kW1 kW2) kW3
 have S3 := Lib.hid (show W3.heap.size = w.heap.size + 3 by omega)
 clear kW1 kW2 kW3 sW1 sW2 sW3 iW1 iW2 iW3
 go_wp2_with fail
 have TW1 := Lib.hid (when_any false 26 W3)
 have TW2 := Lib.hid (when_any false 25 W3)
 obtain ⟨E1, hE1⟩ : ∃ e, e = whenE false 26 := ⟨_, rfl⟩
 obtain ⟨E2, hE2⟩ : ∃ e, e = whenE false 25 := ⟨_, rfl⟩
 rw [← hE1] at TW1
 rw [← hE2] at TW2
 have HE := Lib.hid (show firstE [E1, E2] = 0 by rw [hE1, hE2]; rfl)
 clear hE1 hE2
 refine TW1.out.mono ?_
 rintro e w' ⟨rfl, rfl⟩
 go_wp2_with fail
 refine TW2.out.mono ?_
 rintro e w' ⟨rfl, rfl⟩
 have F2 := Lib.hid (first2 E1 E2 27 W3)
 have hk := below_new W3 (.cells #[.int .i64 E1, .int .i64 E2] 27)
 have b2 := b2.carry hk
 have b3 := b3.carry hk
 have b4 := b4.carry hk
 have hB4 := bthen hB3 hk
 rw [HE.out] at F2
 clear hk hB3 TW1 TW2
 go_wp2_with fail
 refine F2.out.mono ?_
 rintro e w' ⟨rfl, rfl⟩
 obtain ⟨V0, hV0⟩ : ∃ v, v = W3.alloc (.cells #[.int .i64 E1, .int .i64 E2] 27) := ⟨_, rfl⟩
 have s4 : V0.heap.size = w.heap.size + 4 := by rw [hV0, World.size_alloc, S3.out]
 rw [← hV0] at b2 b3 b4 hB4 ⊢
 clear hV0 F2 S3
 go_upto_region 5 with fail
 obtain ⟨W4, hW4⟩ : ∃ v, v = V0.alloc (.cells #[.int .i64 0, .slice none 0 0] 32) := ⟨_, rfl⟩
 have kW4 : Below V0.heap.size V0 W4 := by rw [hW4]; exact below_new _ _
 have iW4 : Blk W4 (w.heap.size + 4) 32 [.int .i64 0, .slice none 0 0] := by rw [hW4, ← s4]; exact Blk.new _ _ _
 have sW4 : W4.heap.size = w.heap.size + 4 + 1 := by rw [hW4, World.size_alloc, s4]
 rw [← hW4]
 clear hW4 s4
 go_upto_region 6 with fail
 obtain ⟨W5, hW5⟩ : ∃ v, v = World.alloc W4 (Obj.cells #[.int .i64 0] 3) := ⟨_, rfl⟩
 have kW5 : Below W4.heap.size W4 W5 := by rw [hW5]; exact below_new _ _
 have iW5 : Blk W5 (w.heap.size + 4 + 1) 3 [.int .i64 0] := by rw [hW5, ← sW4]; exact Blk.new _ _ _
 have sW5 : W5.heap.size = w.heap.size + 4 + 1 + 1 := by rw [hW5]; simp [sW4]
 rw [← hW5]
 clear hW5
 have b2 := (b2.carry kW4).carry kW5
 have b3 := (b3.carry kW4).carry kW5
 have b4 := (b4.carry kW4).carry kW5
 have bL := iW4.carry kW5
 have b6 := iW5
 have hB5 : Below w.heap.size w W5 := bthen (bthen hB4 kW4) kW5
 have s5 : W5.heap.size = w.heap.size + 6 := by omega
 clear iW4 iW5 kW4 kW5 sW4 sW5 hB4
 go_wp2_with fail
 refine (lines_any ⟨L.toArray⟩ W5).mono ?_
 rintro e V ⟨rfl, hV⟩
 have kV : Below W5.heap.size W5 V := by rw [← hV]; exact below_new _ _
 have sV : V.heap.size = w.heap.size + 7 := by rw [← hV, World.size_alloc, s5]
 have lV : Left V (w.heap.size + 6) L := by rw [← hV, ← s5]; exact Blk.new _ _ _
 rw [s5]
 have b2 := b2.carry kV
 have b3 := b3.carry kV
 have b4 := b4.carry kV
 have bL := bL.carry kV
 have b6 := b6.carry kV
 have hBV := bthen hB5 kV
 clear hV kV hB5 s5
 have HMV := Lib.hid (HM.out.carry hBV)
 have HHV := Lib.hid (HH.out.carry hBV)
 have hLl : L.length ≤ 1000000 := by omega
 obtain ⟨B, hBd⟩ : ∃ B, B = w.heap.size + 4 := ⟨_, rfl⟩
 have hV0 : PInv w (w.heap.size + 4) [] V := ⟨fun j x hx => by simp at hx, b2, b3, b4, b6, ⟨_, bL, World.ownsRow_nil _ _ _ _⟩, hBV, by omega⟩
 clear b2 b3 b4 bL b6 hBd
 go_wp2_with fail
 refine wp_rangeR (s := 8) (gf := 111) (lb := #[.pointer (some ⟨w.heap.size + 6, 0, none⟩)]) rfl (enters_of Tryz.func111 (by kernel_rfl) rfl)
  (lines_seq 4 (by omega) (w.heap.size + 6) L hLl V lV) (fun r e => by subst e; omega)
  (fun h k => k.trans h) (fun W l o o' hl h _ _ => World.putObj_heap_other (by omega)) (fun W => rfl) (Below.refl _ _)
  (PInv w (w.heap.size + 4)) (PEx w) (PInv.own w (by omega) (by omega)) (fun c => PEx.own w (by omega) c) hV0
  (fun pre A B r h hg e => by subst e; exact PInv.write w (w.heap.size + 4) (by omega) pre A B h hg) (fun pre x A B row hs _ _ => hs) ?assign ?body ?done ?stop
 case assign =>
  intro l v W K hK
  gi_wp2
  exact hK
 case body =>
  rintro l pre ⟨xv, xl⟩ W hI ⟨hxv, post, hpost⟩
  simp only at hxv hpost
  subst hxv
  simp only [List.setIfInBounds_toArray, List.set_cons_succ, List.set_cons_zero]
  have hwf : ∀ f, (Fence.wide.inRound l).fn f := fun _ => trivial
  have HI := Lib.hid hI
  obtain ⟨hgood, b2, b3, b4, b6, hLA, hBW, hsz⟩ := hI
  have hxl : xl.length ≤ 100001 := by
   have := lineL_len (L := L) (x := xl) (by rw [← hpost]; exact List.mem_append_right _ (List.mem_cons_self ..))
   omega
  have hbl := bodyL_len xl
  have HX := Lib.hid (cut_any xl W (by omega))
  have hpl : pre.length ≤ 1000000 := by
   have h2 := congrArg List.length hpost
   rw [List.length_append, List.length_cons, List.length_map] at h2
   have h3 := linesL_len L
   omega
  have hsW := hBW.size
  have HMW := Lib.hid (HM.out.carry hBW)
  have HHW := Lib.hid (HH.out.carry hBW)
  have HLN := Lib.hid (fun h : endsL xl = false => show lineN pre.length xl = none by unfold lineN; rw [if_neg (by rw [h]; decide)])
  have HRD := Lib.hid (fun (bd : List UInt8) (hb : bodyL xl = bd) (h : endsL xl = true) (hbd : bd.length ≤ 1000000) (W' : World) (hw : Below W.heap.size W W') => readL_any (w.heap.size + 4) (pre.map Prod.snd) xl bd W' h hb (hLA.carry hw) (by have := hw.size; omega) hbd (by rw [List.length_map]; exact hpl) (HMW.out.carry hw))
  obtain ⟨whole, hwh⟩ : ∃ b, b = endsL xl := ⟨_, rfl⟩
  obtain ⟨bd, hbd⟩ : ∃ b, b = bodyL xl := ⟨_, rfl⟩
  rw [← hwh, ← hbd] at HX
  rw [← hwh] at HLN
  rw [← hbd] at hbl
  have HRD2 := Lib.hid (HRD.out bd hbd.symm)
  rw [← hwh] at HRD2
  have HNX := Lib.hid (fun (Wz : World) (hk : Keep (fun k => k = w.heap.size + 4 ∨ w.heap.size + 4 + 3 ≤ k) W Wz) (hp : lineN pre.length xl ≠ none) (hL : LineAt (w.heap.size + 4) (pre.map Prod.snd ++ [xl]) Wz) (a : Act) =>
   next_post (a := a) (x := (Value.string ⟨xl.toArray⟩, xl)) sV (by omega) hk hp HI.out ⟨_, Array.getElem?_eq_getElem (by omega : w.heap.size + 4 + 2 < W.heap.size)⟩ hL)
  have HEX := Lib.hid (fun (Wz : World) (hk : Keep (fun k => k = w.heap.size + 4 ∨ w.heap.size + 4 + 3 ≤ k) W Wz) (hp : lineN pre.length xl = none) (a : Act) =>
   exit_post (a := a) (x := (Value.string ⟨xl.toArray⟩, xl)) (Kp := fun A C => C.heap[w.heap.size + 4 + 2]? = A.heap[w.heap.size + 4 + 2]?) sV (by omega) hk hp HI.out)
  obtain ⟨np, hnp⟩ : ∃ n, n = pre.length := ⟨_, rfl⟩
  have hpe : pre = [] ∨ 0 < pre.length := by
   cases pre with
   | nil => exact .inl rfl
   | cons a b => exact .inr (by simp)
  have HNP := Lib.hid hnp
  rw [← hnp] at b6 HLN hpl
  have HB := Lib.hid (And.intro b2 (And.intro b3 (And.intro b4 b6)))
  have c6 := b6.cell (j := 0) (v := .int .i64 (np : Int)) rfl
  clear hwh hbd hpost post hgood hLA b2 b3 b4 b6 hnp HRD
  have hX := HX.out
  unfold strV at hX ⊢
  gi_wp2_with fail
  refine (((callsIn_wide (n := 2)).2 hX).inRound l).mono ?_
  rintro e w1 ⟨rfl, rfl⟩
  clear hX HX
  gi_upto_region 9 with fail
  gi_cut [43] from 33 (fun u43 wn => ∃ bad, u43 = .bool bad ∧ Keep (fun k => k = w.heap.size + 4 ∨ w.heap.size + 4 + 3 ≤ k) w1 wn ∧ (bad = true → lineN pre.length xl = none) ∧ (bad = false → lineN pre.length xl ≠ none ∧ LineAt (w.heap.size + 4) (pre.map Prod.snd ++ [xl]) wn))
  case first =>
   have hdr : Below w1.heap.size w1 w1.drew := (Below.refl _ _).drew
   cases whole with
   | false =>
     have HN := Lib.hid (show lineN pre.length xl = none by rw [← HNP.out]; exact HLN.out rfl)
     clear c6
     gi_region
     all_goals ((try gi_wp2_with fail); gi_meet; exact ⟨true, rfl, Keep.of_below hdr, fun _ => HN.out, fun h => by cases h⟩)
   | true =>
     have hix0 := form_ix0 logS pulseS (.func (.func 106) #[] #[]) (.func (.func 107) #[] #[])
     have hix1 := form_ix1 logS pulseS (.func (.func 106) #[] #[]) (.func (.func 107) #[] #[])
     have FO := Lib.hid (fun (W' : World) (hw : Below w1.heap.size w1 W') => show Calls Tryz.prog 43 #[] W' (fun e W2 => e = .returned (.agg #[.string logS, .int .i64 1, .func (.func 106) #[] #[], .string pulseS, .int .i64 2, .func (.func 107) #[] #[]]) ∧ Below W'.heap.size W' W2) from forms_any W' (HHW.out.carry hw))
     have hbd6 : bd.length ≤ 1000000 := by omega
     have HNE := Lib.hid (fun h : lineN (pre.map Prod.snd).length xl = none => show lineN pre.length xl = none by rw [List.length_map] at h; exact h)
     have HNE2 := Lib.hid (fun h : lineN pre.length xl = none => show lineN (pre.map Prod.snd).length xl = none by rw [List.length_map]; exact h)
     rcases hpe with rfl | hpe
     ·obtain rfl : np = 0 := HNP.out
      have HRD3 := Lib.hid (fun W' hw => HRD2.out rfl hbd6 W' hw)
      have hm1 : min (0 : Int) 1 = 0 := by decide
      have RD := Lib.hid (fun (W' : World) (hw : Below w1.heap.size w1 W') => show Calls Tryz.prog 50 #[.agg #[.string logS, .int .i64 1, .func (.func 106) #[] #[]], .pointer (some ⟨w.heap.size + 4, 0, none⟩), .string ⟨bd.toArray⟩] W' (fun e W2 => ∃ ok, e = .returned (.bool ok) ∧ Keep (fun k => k = w.heap.size + 4 ∨ w.heap.size + 4 + 3 ≤ k) W' W2 ∧ (ok = false → lineN (([] : List (Value × List UInt8)).map Prod.snd).length xl = none) ∧ (ok = true → lineN (([] : List (Value × List UInt8)).map Prod.snd).length xl ≠ none ∧ LineAt (w.heap.size + 4) (([] : List (Value × List UInt8)).map Prod.snd ++ [xl]) W2)) from HRD3.out W' hw)
      clear HRD2 HRD3 HNX HEX HLN HB HI HMW HHW
      gi_region_with (first
       | (gi_at_call 43; refine (((callsIn_wide (n := 2)).2 (FO.out _ hdr)).inRound l).mono ?_; rintro e w3 ⟨rfl, hb3⟩; have hb9 := below_drew hb3; have c6 := cellb c6 hb9)
       | (gi_at_call 50; refine (((callsIn_wide (n := 2)).2 (RD.out w3 hb9)).inRound l).mono ?_; rintro e w4 ⟨ok, rfl, hk4, h1, h2⟩))
      all_goals ((try gi_wp2_with fail); gi_meet; exact ⟨!ok, rfl, (Keep.of_below hb9).trans hk4, fun h => HNE.out (h1 (by simpa using h)), fun h => (h2 (by simpa using h)).imp (fun h' e => h' (HNE2.out e)) id⟩)
     ·have hn1 : 0 < np := by rw [HNP.out]; exact hpe
      have HRD3 := Lib.hid (fun W' hw => by
       have h := HRD2.out rfl hbd6 W' hw
       have e : formV (pre.map Prod.snd).length = formV 1 := by
        rw [List.length_map, ← HNP.out]
        obtain ⟨q, rfl⟩ : ∃ q, np = q + 1 := ⟨np - 1, by omega⟩
        rfl
       rw [e] at h
       exact h)
      have hm1 : min (np : Int) 1 = 1 := by omega
      have hm2 : ¬ (np : Int) < 1 := by omega
      have hm3 : (if (1 : Int) < (np : Int) then (1 : Int) else np) = 1 := by split <;> omega
      have hm4 : (if (np : Int) ≤ 1 then (np : Int) else 1) = 1 := by split <;> omega
      have RD := Lib.hid (fun (W' : World) (hw : Below w1.heap.size w1 W') => show Calls Tryz.prog 50 #[.agg #[.string pulseS, .int .i64 2, .func (.func 107) #[] #[]], .pointer (some ⟨w.heap.size + 4, 0, none⟩), .string ⟨bd.toArray⟩] W' (fun e W2 => ∃ ok, e = .returned (.bool ok) ∧ Keep (fun k => k = w.heap.size + 4 ∨ w.heap.size + 4 + 3 ≤ k) W' W2 ∧ (ok = false → lineN (pre.map Prod.snd).length xl = none) ∧ (ok = true → lineN (pre.map Prod.snd).length xl ≠ none ∧ LineAt (w.heap.size + 4) (pre.map Prod.snd ++ [xl]) W2)) from HRD3.out W' hw)
      clear HRD2 HRD3 HNX HEX HLN HB HI HMW HHW
      gi_region_with (first
       | (gi_at_call 43; refine (((callsIn_wide (n := 2)).2 (FO.out _ hdr)).inRound l).mono ?_; rintro e w3 ⟨rfl, hb3⟩; have hb9 := below_drew hb3; have c6 := cellb c6 hb9)
       | (gi_at_call 50; refine (((callsIn_wide (n := 2)).2 (RD.out w3 hb9)).inRound l).mono ?_; rintro e w4 ⟨ok, rfl, hk4, h1, h2⟩))
      all_goals ((try gi_wp2_with fail); gi_meet; exact ⟨!ok, rfl, (Keep.of_below hb9).trans hk4, fun h => HNE.out (h1 (by simpa using h)), fun h => (h2 (by simpa using h)).imp (fun h' e => h' (HNE2.out e)) id⟩)
  case rest =>
   obtain ⟨bad, rfl, hk, h1, h2⟩ := hcut
   obtain ⟨b2, b3, b4, b6⟩ := HB.out
   have b2 := hk.blk b2 (by omega)
   have b3 := hk.blk b3 (by omega)
   have b4 := hk.blk b4 (by omega)
   have b6 := hk.blk b6 (by omega)
   have c2 := b2.cell (j := 0) (v := .int .i64 0) rfl
   have c2b := b2.cell (j := 1) (v := .slice none 0 0) rfl
   have c3 := b3.cell (j := 0) (v := .int .i64 0) rfl
   have c4 := b4.cell (j := 0) (v := .int .i64 0) rfl
   have c6 := b6.cell (j := 0) (v := .int .i64 (np : Int)) rfl
   have f2 := b2.frozen 0
   have f2b := b2.frozen 1
   have f3 := b3.frozen 0
   have f4 := b4.frozen 0
   have f6 := b6.frozen 0
   clear b2 b3 b4 b6 HB
   cases bad with
   | true =>
     have HE := Lib.hid (HEX.out wc hk (h1 rfl))
     rw [← HNP.out] at HE
     clear h1 h2 hk HNX HEX
     gi_wp2_with fail
     gi_region
     all_goals gi_wp2
     all_goals exact HE.out _
   | false =>
     obtain ⟨g1, g2⟩ := h2 rfl
     have HE := Lib.hid (HNX.out wc hk g1 g2)
     rw [← HNP.out] at HE
     have v0 : IntKind.i64.wrap ((np : Int) + 1) = (np : Int) + 1 := IntWalk.i64_in _ (by omega)
     clear h1 h2 hk HNX HEX g1 g2
     gi_wp2_with fail
     exact HE.out _
 case done =>
  rintro D xs W hD hS ⟨hgood, b2, b3, b4, b6, ⟨tv, bL, hown⟩, hBW, _⟩ hK
  have hsW := hBW.size
  have hba : badN (linesL L) = none := badN_none (fun j x hx => by
   rw [← hS, List.getElem?_map] at hx
   obtain ⟨z, hz, rfl⟩ := Option.map_eq_some_iff.1 hx
   exact hgood j z hz)
  have hxl : xs.length = (linesL L).length := by rw [← hS, List.length_map]
  rw [hS] at hown bL
  rw [hxl] at b6
  have hlen := linesL_len L
  have htl : (trnT (linesL L)).length ≤ 1000000 := by rw [trnT_len]; omega
  obtain ⟨tl, htlq⟩ : ∃ l, l = trnT (linesL L) := ⟨_, rfl⟩
  obtain ⟨cc, hcc⟩ : ∃ c, c = ctlL (linesL L) := ⟨_, rfl⟩
  obtain ⟨nl, hnl⟩ : ∃ b, b = (linesL L).length := ⟨_, rfl⟩
  rw [← htlq] at hown htl
  rw [← hcc] at bL
  rw [← hnl] at b6
  have Z := Lib.hid (show badN (linesL L) = none ∧ ctlL (linesL L) = cc ∧ trnT (linesL L) = tl ∧ (linesL L).length = nl from ⟨hba, hcc.symm, htlq.symm, hnl.symm⟩)
  clear hba hgood hS hxl hlen htlq hcc hnl
  have hrw : Prs W tv tl := hown.rw pV_len
  obtain ⟨fa, fc, rfl⟩ := ownsRow_sl hown
  have c0 := bL.cell (j := 0) (v := .int .i64 cc) rfl
  have c0b := bL.cell (j := 1) (v := .slice fa tl.length fc) rfl
  have HC := Lib.hid (logCheck_any cc fa tl.length fc tl W (by omega) hrw)
  have HO := Lib.hid hown
  clear hrw hown
  obtain ⟨fe, hfe⟩ : ∃ e, e = logE cc tl := ⟨_, rfl⟩
  rw [← hfe] at HC
  have HFE := Lib.hid hfe
  clear hfe
  go_wp2_with fail
  refine HC.out.mono ?_
  rintro e W1 ⟨rfl, hb1⟩
  have hK1 := (hb1.block D (Array.getElem?_eq_some_iff.1 hK).1).trans hK
  have b2 := b2.carry hb1
  have b3 := b3.carry hb1
  have b4 := b4.carry hb1
  have bL := bL.carry hb1
  have b6 := b6.carry hb1
  have HO1 := Lib.hid (HO.out.carry hb1)
  have hB1 := bthen hBW hb1
  clear c0 c0b hb1 hK HO HC hBW
  have c2 := b2.cell (j := 0) (v := .int .i64 0) rfl
  have c2b := b2.cell (j := 1) (v := .slice none 0 0) rfl
  have c3 := b3.cell (j := 0) (v := .int .i64 0) rfl
  have c4 := b4.cell (j := 0) (v := .int .i64 0) rfl
  have cL := bL.cell (j := 0) (v := .int .i64 cc) rfl
  have cLb := bL.cell (j := 1) (v := .slice fa tl.length fc) rfl
  have c6 := b6.cell (j := 0) (v := .int .i64 (nl : Int)) rfl
  have f2 := b2.frozen 0
  have f2b := b2.frozen 1
  have f3 := b3.frozen 0
  have f4 := b4.frozen 0
  by_cases hz : fe = 0
  ·subst hz
   have HP := Lib.hid (HOKP.out cc tl Z.out.1 Z.out.2.1 Z.out.2.2.1 HFE.out.symm)
   go_wp2_with fail
   obtain ⟨a2, a3, a4, hB2⟩ := setFour (.int .i64 cc) (.slice fa tl.length fc) (.int .i64 0) (.int .i64 0) b2 b3 b4 hB1
   have hK2 : (fourW W1 w.heap.size (.int .i64 cc) (.slice fa tl.length fc) (.int .i64 0) (.int .i64 0)).heap[D]? = some (.deferred (some [])) := by rw [fourW_at _ _ _ _ _ _ _ (by omega)]; exact hK1
   have ho2 : OwR (fourW W1 w.heap.size (.int .i64 cc) (.slice fa tl.length fc) (.int .i64 0) (.int .i64 0)) (w.heap.size + 4 + 3) 104 2 pV (.slice fa tl.length fc) tl :=
    ownsRow_setO (ownsRow_setO (ownsRow_setO (ownsRow_setO HO1.out (by omega)) (by omega)) (by omega)) (by omega)
   obtain ⟨W2, hW2⟩ : ∃ v, v = fourW W1 w.heap.size (.int .i64 cc) (.slice fa tl.length fc) (.int .i64 0) (.int .i64 0) := ⟨_, rfl⟩
   have hW2' := hW2
   unfold fourW at hW2'
   rw [← hW2']
   rw [← hW2] at a2 a3 a4 hK2 hB2 ho2
   clear hW2 hW2'
   have gP := grownBy_putObj' W2 D (.deferred none)
   have i2 := blk_own a2 gP (fun r e => by cases e; omega)
   have i3 := blk_own a3 gP (fun r e => by cases e; omega)
   have i4 := blk_own a4 gP (fun r e => by cases e; omega)
   have e2 := i2.cell (j := 0) (v := .int .i64 cc) rfl
   have e2b := i2.cell (j := 1) (v := .slice fa tl.length fc) rfl
   have e3 := i3.cell (j := 0) (v := .int .i64 0) rfl
   have e4 := i4.cell (j := 0) (v := .int .i64 0) rfl
   have hpz : Prs (W2.putObj D (.deferred none)) (.slice fa tl.length fc) tl := OwR.rw (own_own ho2 gP (fun r g e hv e2 => by
    cases e
    subst e2
    have := ownsRow_cellsT ho2 hv hK2
    cases this)) pV_len
   clear c2 c2b c3 c4 cL cLb c6 f2 f2b f3 f4 i2 i3 i4
   go_wp2
   refine postR_mark (v := .tuple #[.agg #[.int .i64 cc, .slice fa tl.length fc], .int .i64 0, .int .i64 0]) hK2 rfl ?_ ⟨?_, hB2.trans (belowK_b (w := w) (Nat.le_refl _) _ D _ _ (by omega) hK2 rfl rfl)⟩
   ·simp [results, Tryz.f9, go_sem, e2, e2b, e3, e4]
   ·obtain ⟨h1, h2, h3, h4⟩ := HP.out
    exact ⟨fa, tl.length, fc, by rw [h1, h2, h3], by rw [h4]; exact hpz⟩
  ·have hzb : (fe != 0) = true := by rw [bne_iff_ne]; exact hz
   have HP := Lib.hid (HNOP.out cc tl nl fe Z.out.1 Z.out.2.1 Z.out.2.2.1 Z.out.2.2.2 HFE.out hz)
   go_wp2_with fail
   go_region
   all_goals
    obtain ⟨a2, a3, a4, hB2⟩ := setFour (.int .i64 0) (.slice none 0 0) (.int .i64 (nl : Int)) (.int .i64 fe) b2 b3 b4 hB1
    have hK2 : (fourW W1 w.heap.size (.int .i64 0) (.slice none 0 0) (.int .i64 (nl : Int)) (.int .i64 fe)).heap[D]? = some (.deferred (some [])) := by rw [fourW_at _ _ _ _ _ _ _ (by omega)]; exact hK1
    obtain ⟨W2, hW2⟩ : ∃ v, v = fourW W1 w.heap.size (.int .i64 0) (.slice none 0 0) (.int .i64 (nl : Int)) (.int .i64 fe) := ⟨_, rfl⟩
    have hW2' := hW2
    unfold fourW at hW2'
    rw [← hW2']
    rw [← hW2] at a2 a3 a4 hK2 hB2
    clear hW2 hW2'
    obtain ⟨W3', hW3⟩ : ∃ v, v = W2.drew := ⟨_, rfl⟩
    replace a2 : Blk W3' w.heap.size 32 [.int .i64 0, .slice none 0 0] := by rw [hW3]; exact a2
    replace a3 : Blk W3' (w.heap.size + 1) 3 [.int .i64 (nl : Int)] := by rw [hW3]; exact a3
    replace a4 : Blk W3' (w.heap.size + 2) 27 [.int .i64 fe] := by rw [hW3]; exact a4
    replace hK2 : W3'.heap[D]? = some (.deferred (some [])) := by rw [hW3]; exact hK2
    replace hB2 : Below w.heap.size w W3' := by rw [hW3]; exact hB2.drew
    rw [← hW3]
    clear hW3
    have gP := grownBy_putObj' W3' D (.deferred none)
    have i2 := blk_own a2 gP (fun r e => by cases e; omega)
    have i3 := blk_own a3 gP (fun r e => by cases e; omega)
    have i4 := blk_own a4 gP (fun r e => by cases e; omega)
    have e2 := i2.cell (j := 0) (v := .int .i64 0) rfl
    have e2b := i2.cell (j := 1) (v := .slice none 0 0) rfl
    have e3 := i3.cell (j := 0) (v := .int .i64 (nl : Int)) rfl
    have e4 := i4.cell (j := 0) (v := .int .i64 fe) rfl
    clear c2 c2b c3 c4 cL cLb c6 f2 f2b f3 f4 i2 i3 i4
    go_wp2
    refine postR_mark (v := .tuple #[.agg #[.int .i64 0, .slice none 0 0], .int .i64 (nl : Int), .int .i64 fe]) hK2 rfl ?_ ⟨ParsePost.zero HP.out _, hB2.trans (belowK_b (w := w) (Nat.le_refl _) _ D _ _ (by omega) hK2 rfl rfl)⟩
    simp [results, Tryz.f9, go_sem, e2, e2b, e3, e4]
 case stop =>
  rintro D c pre W hD ⟨post, hpost⟩ ⟨⟨rfl, pre', x, rfl, hgood, hbad⟩, b2, b3, b4, hBW⟩ hK
  have hsW := hBW.size
  have hpl : (pre' ++ [x]).length - 1 = pre'.length := by simp
  rw [hpl] at b3
  have hba : badN (linesL L) = some pre'.length := badN_some (l := x.2) (by
   rw [← hpost, List.map_append, List.append_assoc, List.getElem?_append_right (by rw [List.length_map]; omega)]
   simp) hbad (fun j y hj hy => by
   rw [← hpost, List.map_append, List.append_assoc, List.getElem?_append_left (by rw [List.length_map]; exact hj), List.getElem?_map] at hy
   obtain ⟨z, hz, rfl⟩ := Option.map_eq_some_iff.1 hy
   exact hgood j z hz)
  have HP := Lib.hid (HBADP.out pre'.length hba)
  clear hba hbad hpost hgood hpl
  have gP := grownBy_putObj' W D (.deferred none)
  have i2 := blk_own b2 gP (fun r e => by cases e; omega)
  have i3 := blk_own b3 gP (fun r e => by cases e; omega)
  have i4 := blk_own b4 gP (fun r e => by cases e; omega)
  have e2 := i2.cell (j := 0) (v := .int .i64 0) rfl
  have e2b := i2.cell (j := 1) (v := .slice none 0 0) rfl
  have e3 := i3.cell (j := 0) (v := .int .i64 (pre'.length : Int)) rfl
  have e4 := i4.cell (j := 0) (v := .int .i64 25) rfl
  go_wp2
  refine postR_mark (v := .tuple #[.agg #[.int .i64 0, .slice none 0 0], .int .i64 (pre'.length : Int), .int .i64 25]) hK rfl ?_ ⟨ParsePost.zero HP.out _, hBW.trans (belowK_b (w := w) (Nat.le_refl _) _ D _ _ (by omega) hK rfl rfl)⟩
  simp [results, Tryz.f9, go_sem, e2, e2b, e3, e4]
end
end Go.Proofs.YtpmngcffkhbofaaGreatDoor

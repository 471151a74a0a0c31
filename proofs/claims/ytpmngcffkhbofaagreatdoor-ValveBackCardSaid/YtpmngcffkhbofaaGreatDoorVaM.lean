/- Package valve: the ticks that two logs have (an iterator over both). -/
import Derived.Test.YtpmngcffkhbofaaGreatDoorVaK
import Derived.Maps.OwnIn
namespace Go.Proofs.YtpmngcffkhbofaaGreatDoor
section
set_option linter.unusedSimpArgs false
set_option linter.unusedVariables false
open Go.RowKit Go.Maps
/-- the pulses of both at the ticks that both have. -/
def bothF (lb : List P2) (p : P2) : Option (P2 × P2) := (lkp lb p.1).map fun v => (p, (p.1, v))
def bothL (la lb : List P2) : List (P2 × P2) := la.filterMap (bothF lb)
theorem bothL_succ (la lb : List P2) (k : Nat) (p : P2) (h : la[k]? = some p) : bothL (la.take (k + 1)) lb = bothL (la.take k) lb ++ (match lkp lb p.1 with | some v => [(p, (p.1, v))] | none => []) := by
 unfold bothL
 rw [List.take_add_one, h, List.filterMap_append]
 congr 1
 unfold bothF
 cases hq : lkp lb p.1 <;> simp [hq]
theorem bothL_split (la lb : List P2) (k : Nat) : bothL la lb = bothL (la.take k) lb ++ bothL (la.drop k) lb := by
 unfold bothL
 rw [← List.filterMap_append, List.take_append_drop]
/-- these blocks stand. -/
def KpL (bs : List Nat) (A B : World) : Prop := ∀ b ∈ bs, B.heap[b]? = A.heap[b]?
theorem KpL.refl (bs : List Nat) (A : World) : KpL bs A A := fun _ _ => rfl
theorem KpL.trans {bs : List Nat} {A B C : World} (h : KpL bs A B) (k : KpL bs B C) : KpL bs A C := fun b hb => (k b hb).trans (h b hb)
theorem KpL.of_below {bs : List Nat} {A B : World} (h : Below A.heap.size A B) (hl : ∀ b ∈ bs, b < A.heap.size) : KpL bs A B := fun b hb => h.block b (hl b hb)
theorem KpL.blk {bs : List Nat} {A B : World} (h : KpL bs A B) {b : Nat} (hb : b ∈ bs) {T : TypeId} {vs : List Value} (hk : Blk A b T vs) : Blk B b T vs := (h b hb).trans hk
theorem ownsMap_of_heap {P : Program} {k : TypeId} {R : Value → Option (DataW Unit × List MemPlace)} {w w' : World} {b n : Nat} {D : DataW Unit} (h : w.ownsMap P k R b n D) (hh : w'.heap[b]? = w.heap[b]?) : w'.ownsMap P k R b n D := by
 obtain ⟨es, clock, hb, r⟩ := h
 exact ⟨es, clock, hh.trans hb, r⟩
theorem grownD {A B : World} (h : Below A.heap.size A B) : A.grownBy B none := ⟨h.os, h.tape, h.output, h.size, fun k hk _ => h.block k hk⟩
set_option maxRecDepth 100000 in
set_option maxHeartbeats 2000000 in
theorem both_any (ca cb : Int) (a1 a2 : Option Addr) (n1 c1 n2 c2 : Nat) (lb : List P2) (w : World) (hok : TrOk lb) (hvb : Prs w (.slice a2 n2 c2) lb) :
 Calls Tryz.prog 60 #[.agg #[.int .i64 ca, .slice a1 n1 c1], .agg #[.int .i64 cb, .slice a2 n2 c2]] w fun r w' => (∃ A M R, r = .returned (.func (.func 124) #[] #[.pointer (some ⟨A, 0, none⟩), .pointer (some ⟨M, 0, none⟩)]) ∧ Blk w' A 32 [.int .i64 ca, .slice a1 n1 c1] ∧ Blk w' M 200 [.map (some R)] ∧ w'.ownsMap Tryz.prog 3 (plainElem (H := Unit) Tryz.prog 3) R n2 (mpD lb) ∧ w.heap.size ≤ A ∧ w.heap.size ≤ M ∧ w.heap.size ≤ R) ∧ Below w.heap.size w w' := by
 have TA := Lib.hid (fun W (h : Prs W (.slice a2 n2 c2) lb) => at_any cb a2 n2 c2 lb W hok h)
 clear hok
 go_enter Tryz.func60, Tryz.ntmps60
 go_upto_region 1 with fail
 obtain ⟨W1, hW1⟩ : ∃ v, v = World.alloc w (Obj.cells #[.int .i64 ca, .slice a1 n1 c1] 32) := ⟨_, rfl⟩
 have kW1 : Below w.heap.size w W1 := by rw [hW1]; exact below_new _ _
 have iW1 : Blk W1 (w.heap.size) 32 [.int .i64 ca, .slice a1 n1 c1] := by rw [hW1]; exact Blk.new _ _ _
 have sW1 : W1.heap.size = w.heap.size + 1 := by rw [hW1]; simp
 rw [← hW1]
 clear hW1
 obtain ⟨W2, hW2⟩ : ∃ v, v = World.alloc W1 (Obj.cells #[.int .i64 cb, .slice a2 n2 c2] 32) := ⟨_, rfl⟩
 have kW2 : Below W1.heap.size W1 W2 := by rw [hW2]; exact below_new _ _
 have iW2 : Blk W2 (w.heap.size + 1) 32 [.int .i64 cb, .slice a2 n2 c2] := by rw [hW2, ← sW1]; exact Blk.new _ _ _
 have sW2 : W2.heap.size = w.heap.size + 1 + 1 := by rw [hW2]; simp [sW1]
 rw [← hW2]
 clear hW2
 have hB := bthen kW1 kW2
 have i1 := iW1.carry kW2
 have b0 := iW2.cell (j := 0) (v := .int .i64 cb) rfl
 have b1 := iW2.cell (j := 1) (v := .slice a2 n2 c2) rfl
 replace hvb := hvb.carry hB
 have hW2 := hB.size
 clear iW1 sW1 kW1 iW2 sW2 kW2
 go_wp2_with fail
 refine (TA.out W2 hvb).mono ?_
 rintro e w3 ⟨⟨R, rfl, hR, hown⟩, hb3⟩
 have i2 := i1.carry hb3
 replace hB := bthen hB hb3
 have kn := below_new w3 (.cells #[.map (some R)] 200)
 have iM : Blk (w3.alloc (.cells #[.map (some R)] 200)) w3.heap.size 200 [.map (some R)] := Blk.new w3 _ _
 have i3 := i2.carry kn
 have hown2 := hown.alloc (.cells #[.map (some R)] 200)
 clear b0 b1 i1 hvb hb3 i2 hown
 go_wp2
 go_ret
 have hs2 := hB.size
 exact ⟨⟨_, _, _, rfl, i3, iM, hown2, Nat.le_refl _, hs2, Nat.le_trans hW2 hR⟩, bthen hB kn⟩
set_option maxRecDepth 100000 in
set_option maxHeartbeats 4000000 in
theorem both1_in (m : Nat) (hm : 1 ≤ m) (l A M R tb off n1 c1 n2 : Nat) (ca : Int) (a1 : Option Addr) (la lb : List P2) (J Jx : List (P2 × P2) → World → Prop)
 (hN : n1 = la.length) (hn9 : n1 ≤ 1000000) (hrg : ∀ x ∈ la, 0 ≤ x.1 ∧ x.1 ≤ 1000000) (ha1 : 0 < n1 → a1 = some ⟨tb, off, none⟩)
 (hY : ∀ pre x W, J pre W → (∃ post, bothL la lb = pre ++ x :: post) → YieldAt Fence.wide (m - 1) Tryz.prog l #[.agg #[.int .i64 x.1.1, .int .i64 x.1.2], .agg #[.int .i64 x.2.1, .int .i64 x.2.2]] W fun e W' =>
   (e = .returned (.bool true) ∧ J (pre ++ [x]) W' ∧ KpL [A, M, R, tb] W W') ∨ (e = .returned (.bool false) ∧ Jx (pre ++ [x]) W'))
 (hJ : ∀ pre A B, J pre A → A.grownBy B none → J pre B)
 (W : World) (iA : Blk W A 32 [.int .i64 ca, .slice a1 n1 c1]) (iM : Blk W M 200 [.map (some R)]) (hR : W.ownsMap Tryz.prog 3 (plainElem (H := Unit) Tryz.prog 3) R n2 (mpD lb))
 (hc : ∀ (j : Nat) (x : P2), la[j]? = some x → W.cell? ⟨tb, off + j * 2, none⟩ = some (.int .i64 x.1) ∧ W.cell? ⟨tb, off + j * 2 + 1, none⟩ = some (.int .i64 x.2)) (h00 : J [] W) :
 CallsIn Fence.wide m Tryz.prog 124 #[.func (.yield l) #[] #[], .pointer (some ⟨A, 0, none⟩), .pointer (some ⟨M, 0, none⟩)] W fun e W' => (∃ v, e = .returned v) ∧
  (J (bothL la lb) W' ∨ (∃ pre, Jx pre W')) := by
 refine callsIn_of_wp Tryz.func124 rfl trivial ?_ rfl
 simp only [Tryz.ntmps124, List.size_toArray, List.length_cons, List.length_nil, Nat.reduceAdd, Nat.reduceSub, Array.replicate_succ, Array.replicate_zero, List.push_toArray, List.append_toArray, List.nil_append, List.cons_append]
 have hwf : ∀ f, Fence.wide.fn f := fun _ => trivial
 have HY := Lib.hid hY
 have HJ := Lib.hid hJ
 have HC := Lib.hid hc
 have HN := Lib.hid hN
 have HRG := Lib.hid hrg
 have x1 := iA.cell (j := 1) (v := .slice a1 n1 c1) rfl
 have HIA := Lib.hid iA
 have HIM := Lib.hid iM
 have HR := Lib.hid hR
 clear hY hJ hc hN hrg iA iM hR
 gi_wp2_with fail
 gi_loopw [11] (fun i wr => ∃ (k : Nat), k ≤ n1 ∧ i = .int .i64 (k : Int) ∧ J (bothL (la.take k) lb) wr ∧ KpL [A, M, R, tb] W wr)
  (fun r _ => match r with | .int _ n => (1000000 - n).toNat | _ => 0)
 case atStart => exact ⟨0, Nat.zero_le _, rfl, h00, KpL.refl _ _⟩
 case round =>
  clear x1
  obtain ⟨k, hk, rfl, hj, hkp⟩ := hrel
  by_cases hkn : k = n1
  ·subst hkn
   have hn : ¬ (k : Int) < (k : Int) := by omega
   rw [List.take_of_length_le (by rw [HN.out]; exact Nat.le_refl _)] at hj
   gi_wp2
   go_end0
   exact ⟨⟨_, rfl⟩, .inl hj⟩
  ·have hlt : (k : Int) < (n1 : Int) := by omega
   obtain rfl := ha1 (by omega)
   obtain ⟨p, hp⟩ : ∃ p, la[k]? = some p := ⟨_, List.getElem?_eq_getElem (by rw [← HN.out]; omega)⟩
   obtain ⟨d0, d1⟩ := HC.out k p hp
   have d0 := (World.cell?_of_block (hkp tb (by simp))).trans d0
   have d1 := (World.cell?_of_block (hkp tb (by simp))).trans d1
   have iA := hkp.blk (by simp) HIA.out
   have iM := hkp.blk (by simp) HIM.out
   have hR := ownsMap_of_heap HR.out (hkp R (by simp))
   have hprg := HRG.out p (List.mem_of_getElem? hp)
   have hsu := bothL_succ la lb k p hp
   have hsp := bothL_split la lb (k + 1)
   have hhas := has_mpD lb p.1
   have hat0 := at_mpD lb p.1
   obtain ⟨px, py⟩ := p
   simp only at d0 d1 hprg hsu hhas hat0
   have hkey : keyOf Tryz.prog 3 (.int .i64 px) = some (.int .i64 px) := keyOf_int_mk Tryz.underlying3 (wf_i64 hprg)
   have HK := Lib.hid hkey
   have hbA : A < wr.heap.size := Blk.lt iA
   have hbM : M < wr.heap.size := Blk.lt iM
   have hbR : R < wr.heap.size := hR.lt
   have hbT : tb < wr.heap.size := lt_of_cellSome d0
   have hbl : ∀ b ∈ [A, M, R, tb], b < wr.heap.size := by
    intro b hb
    simp at hb
    omega
   have HBL := Lib.hid hbl
   clear hp hkey hbl hbA hbR hbT
   gi_upto_region 3 with fail
   obtain ⟨W1, hW1⟩ : ∃ v, v = World.alloc wr (Obj.cells #[.int .i64 px, .int .i64 py] 104) := ⟨_, rfl⟩
   have kW1 : Below wr.heap.size wr W1 := by rw [hW1]; exact below_new _ _
   have iW1 : Blk W1 (wr.heap.size) 104 [.int .i64 px, .int .i64 py] := by rw [hW1]; exact Blk.new _ _ _
   have sW1 : W1.heap.size = wr.heap.size + 1 := by rw [hW1]; simp
   rw [← hW1]
   clear hW1
   have e0 := iW1.cell (j := 0) (v := .int .i64 px) rfl
   have e1 := iW1.cell (j := 1) (v := .int .i64 py) rfl
   have hj1 := HJ.out _ wr W1 hj (grownD kW1)
   have hkp1 := hkp.trans (KpL.of_below kW1 HBL.out)
   have hR1 := ownsMap_of_heap hR (kW1.block R hR.lt)
   have m0 := (Blk.carry iM kW1).cell (j := 0) (v := .map (some R)) rfl
   clear d0 d1 iA iM hR hj hkp iW1 sW1 hbM HBL kW1
   cases hl : lkp lb px with
   | none =>
     rw [hl] at hsu hhas
     have hhas' : has (mpD lb) (.int .i64 px) = false := hhas
     have HSU := Lib.hid hsu
     have HHAS := Lib.hid hhas'
     clear hhas hat0 hsp hsu hhas' hl
     gi_wp2_with (gi_at_lookup; refine wpListIn_lookup_own_ok_int _ rfl _ _ 200 rfl 3 3 .i64 Tryz.keyInt Tryz.underlying200 Tryz.underlying3 (Tryz.zeroInt _) R n2 _ rfl hR1 _ _ rfl HK.out ?_; intro c hat hwc; rw [HHAS.out])
     go_roundw
     case rel => exact ⟨k + 1, by omega, by go_num, by rw [HSU.out, List.append_nil]; exact hj1, hkp1⟩
     case measure => simp; omega
   | some v =>
     rw [hl] at hsu hhas hat0
     simp only at hsu
     have hhas' : has (mpD lb) (.int .i64 px) = true := hhas
     have HAT := Lib.hid (fun (c : Int) (h : (mpD lb).atKey (.int .i64 px) (.lit (.int .i64 0)) = .lit (.int .i64 c)) => show c = v by
      have e := h.symm.trans hat0
      simp at e
      exact e)
     rw [hsu, List.append_assoc] at hsp
     obtain ⟨fn, tmps, assign, body, hy, hR2⟩ := HY.out _ ((px, py), (px, v)) W1 hj1 ⟨_, hsp⟩
     simp only at hy
     have HSU := Lib.hid hsu
     have HHAS := Lib.hid hhas'
     clear hhas hat0 hsp hsu hhas' hl hj1
     gi_wp2_with (gi_at_lookup; refine wpListIn_lookup_own_ok_int _ rfl _ _ 200 rfl 3 3 .i64 Tryz.keyInt Tryz.underlying200 Tryz.underlying3 (Tryz.zeroInt _) R n2 _ rfl hR1 _ _ rfl HK.out ?_; intro c hat hwc; rw [HHAS.out, HAT.out c hat])
     refine hR2.mono ?_
     rintro e W3 (⟨rfl, hj3, hk3⟩ | ⟨rfl, hjx⟩)
     ·clear hR2 hy
      gi_wp2
      go_roundw
      case rel => exact ⟨k + 1, by omega, by go_num, by rw [HSU.out]; exact hj3, hkp1.trans hk3⟩
      case measure => simp; omega
     ·clear hR2 hy
      gi_wp2
      refine bodyPost_ret (results_none rfl _ _ _) rfl ?_
      exact ⟨⟨_, rfl⟩, .inr ⟨_, hjx⟩⟩
theorem both_seq (m : Nat) (hm : 1 ≤ m) (A M R n1 c1 n2 : Nat) (ca : Int) (a1 : Option Addr) (la lb : List P2) (w00 w : World) (hb0 : Below w00.heap.size w00 w) (hva : Prs w00 (.slice a1 n1 c1) la) (hn9 : n1 ≤ 1000000) (hrg : ∀ x ∈ la, 0 ≤ x.1 ∧ x.1 ≤ 1000000)
 (iA : Blk w A 32 [.int .i64 ca, .slice a1 n1 c1]) (iM : Blk w M 200 [.map (some R)]) (hR : w.ownsMap Tryz.prog 3 (plainElem (H := Unit) Tryz.prog 3) R n2 (mpD lb)) :
 ∃ tb, (tb < w00.heap.size ∨ tb = A) ∧ SeqX Fence.wide m Tryz.prog 124 #[.pointer (some ⟨A, 0, none⟩), .pointer (some ⟨M, 0, none⟩)] (fun x : P2 × P2 => #[.agg #[.int .i64 x.1.1, .int .i64 x.1.2], .agg #[.int .i64 x.2.1, .int .i64 x.2.2]]) (fun pre x _ => ∃ post, bothL la lb = pre ++ x :: post) (KpL [A, M, R, tb]) (fun ys => ys = bothL la lb) (fun _ => True) false w := by
 obtain ⟨tb, off, ha, hc, hlt⟩ : ∃ tb off, (0 < n1 → a1 = some ⟨tb, off, none⟩) ∧ (∀ (j : Nat) (x : P2), la[j]? = some x → w.cell? ⟨tb, off + j * 2, none⟩ = some (.int .i64 x.1) ∧ w.cell? ⟨tb, off + j * 2 + 1, none⟩ = some (.int .i64 x.2)) ∧ (tb < w00.heap.size ∨ tb = A) := by
  have hlen := hva.len
  by_cases h0 : 0 < n1
  ·obtain ⟨b, off, cp, he, hcs⟩ := hva.head (by omega)
   simp only [Value.slice.injEq] at he
   have hcc : ∀ (j : Nat) (x : P2), la[j]? = some x → w00.cell? ⟨b, off + j * 2, none⟩ = some (.int .i64 x.1) ∧ w00.cell? ⟨b, off + j * 2 + 1, none⟩ = some (.int .i64 x.2) := fun j x hj => rw2 (hcs j x hj) (show pV x = [.int .i64 x.1, .int .i64 x.2] from rfl)
   obtain ⟨x, hx⟩ : ∃ x, la[0]? = some x := ⟨_, List.getElem?_eq_getElem (by omega)⟩
   exact ⟨b, off, fun _ => he.1, fun j x hj => ⟨cellb (hcc j x hj).1 hb0, cellb (hcc j x hj).2 hb0⟩, .inl (lt_of_cellSome (hcc 0 x hx).1)⟩
  ·have : la = [] := List.length_eq_zero_iff.1 (by omega)
   subst this
   exact ⟨A, 0, fun h => absurd h h0, fun j x hj => by simp at hj, .inr rfl⟩
 refine ⟨tb, hlt, fun l J Jx W hW hJ _ hY h00 => ?_⟩
 refine (both1_in m hm l A M R tb off n1 c1 n2 ca a1 la lb J Jx hva.len hn9 hrg ha hY (fun pre A B h hg => hJ pre A B none h hg (fun r e => by cases e)) W (Blk.carry iA hW) (Blk.carry iM hW) (ownsMap_of_heap hR (hW.block R hR.lt)) (fun j x hj => ⟨cellb (hc j x hj).1 hW, cellb (hc j x hj).2 hW⟩) h00).mono ?_
 exact fun _ _ ⟨hv, h⟩ => ⟨hv, h.imp (fun h => ⟨_, rfl, h⟩) (fun ⟨pre, h⟩ => ⟨pre, trivial, h⟩)⟩
end
section
set_option linter.unusedSimpArgs false
set_option linter.unusedVariables false
open Go.RowKit Go.Maps
attribute [local go_sem] Oper.semAt_some
theorem eqP_run (a b c d : Int) (w : World) : (Op.equalIn 10000 104 (.agg #[.int .i64 a, .int .i64 b]) (.agg #[.int .i64 c, .int .i64 d])).run Tryz.prog w = .ok (a == c && b == d) w := by
 by_cases h1 : a = c
 ·subst h1
  by_cases h2 : b = d
  ·subst h2; go_simp
  ·have : (b == d) = false := by simpa using h2
   go_simp
 ·have : (a == c) = false := by simpa using h1
  go_simp
theorem neqP (a b c d : Int) (w : World) : Sem.run Tryz.prog (binOp .neq 104 (.agg #[.int .i64 a, .int .i64 b]) (.agg #[.int .i64 c, .int .i64 d])) w = .ok (.bool ((a, b) != (c, d))) w := by
 rw [run_neq_struct, eqP_run]
 rfl
theorem blk_own {w w' : World} {row : Option Nat} {B : Nat} {T : TypeId} {vs : List Value} (h : Blk w B T vs) (hg : w.grownBy w' row) (hr : ∀ r, row = some r → B ≠ r) : Blk w' B T vs := (hg.block B (Blk.lt h) (fun e => hr B e.symm rfl)).trans h
theorem ne_of_blk {w : World} {B r : Nat} {T : TypeId} {vs : List Value} (h : Blk w B T vs) (ho : ∃ o : Obj, w.heap[r]? = some o ∧ o.isCells = false) : B ≠ r := by
 rintro rfl
 obtain ⟨o, h1, h2⟩ := ho
 rw [show w.heap[B]? = _ from h] at h1
 cases h1
 cases h2
theorem below_grown {H : Nat} {w A B : World} {row : Option Nat} (h : Below H w A) (hg : A.grownBy B row) (hr : ∀ r, row = some r → H ≤ r) (hs : H ≤ w.heap.size) : Below H w B :=
 h.trans ⟨hg.1, hg.2, hg.3, hg.size, fun k hk => hg.block k (by have := h.size; omega) (fun e => by have := hr k e.symm; omega)⟩
/-- the law for a loop over an iterator of two pairs that the round boxes. -/
theorem wp_rangeP {P : Program} {g : Operand} {p q s r : Nat} {T : TypeId} {assign body : Code} {Q : Exit → Act → World → Prop} {a : Act} {w : World}
 {gf : Nat} {lb : Array Value} (hg : a.eval g = .func (.func gf) #[] lb) (eg : ∀ args w, (callFunc gf args).run P w = .ok (.enter gf args) w)
 {X : List (P2 × P2) → P2 × P2 → Prop} {Kp : World → World → Prop} {S Sp : List (P2 × P2) → Prop} {w0 : World} (hseq : SeqX Fence.wide 4 P gf lb (fun x : P2 × P2 => #[.agg #[.int .i64 x.1.1, .int .i64 x.1.2], .agg #[.int .i64 x.2.1, .int .i64 x.2.2]]) (fun pre x _ => X pre x) Kp S Sp false w0)
 (hKt : ∀ {A B C : World}, Kp A B → Kp B C → Kp A C) (hKb : ∀ (W : World) (l : Nat) (o o' : Obj), w.heap.size ≤ l → W.heap[l]? = some o → o.isCells = false → o.isWalk = false → Kp W (W.putObj l o')) (hb0 : Below w0.heap.size w0 w)
 (I : List (P2 × P2) → World → Prop) (Ix : Code → List (P2 × P2) → World → Prop) (hI : OwnFrom w.heap.size I) (hIx : ∀ c, OwnFrom w.heap.size (Ix c)) (h0 : I [] w)
 (hKl : ∀ pre W W', I pre W → Below W.heap.size W W' → Kp W W')
 (hassign : ∀ (l : Nat) (x : P2 × P2) (W : World) (K : Act → World → Prop), (∀ (B8 B9 : Nat) (W' : World), Below W.heap.size W W' → BlkI W' B8 T [x.1.1, x.1.2] → BlkI W' B9 T [x.2.1, x.2.2] → W.heap.size ≤ B8 → W.heap.size ≤ B9 → K { tmps := (((a.tmps.setIfInBounds p (.agg #[.int .i64 x.1.1, .int .i64 x.1.2])).setIfInBounds q (.agg #[.int .i64 x.2.1, .int .i64 x.2.2])).setIfInBounds s (.pointer (some ⟨B8, 0, none⟩))).setIfInBounds r (.pointer (some ⟨B9, 0, none⟩)), defers := [] } W') →
   assign.wpIn (Fence.wide.inRound l) 3 P (Exit.then K (fun _ _ _ => False)) { tmps := (a.tmps.setIfInBounds p (.agg #[.int .i64 x.1.1, .int .i64 x.1.2])).setIfInBounds q (.agg #[.int .i64 x.2.1, .int .i64 x.2.2]), defers := [] } W)
 (hbody : ∀ (l : Nat) (pre : List (P2 × P2)) (x : P2 × P2) (B8 B9 : Nat) (W : World), I pre W → X pre x → BlkI W B8 T [x.1.1, x.1.2] → BlkI W B9 T [x.2.1, x.2.2] → w.heap.size ≤ B8 → w.heap.size ≤ B9 → body.wpIn (Fence.wide.inRound l) 3 P (ownPostG w.heap.size Kp I Ix (pre ++ [x]) W) { tmps := (((a.tmps.setIfInBounds p (.agg #[.int .i64 x.1.1, .int .i64 x.1.2])).setIfInBounds q (.agg #[.int .i64 x.2.1, .int .i64 x.2.2])).setIfInBounds s (.pointer (some ⟨B8, 0, none⟩))).setIfInBounds r (.pointer (some ⟨B9, 0, none⟩)), defers := [] } W)
 (hsz : ∀ pre W, I pre W → w.heap.size ≤ W.heap.size)
 (hdone : ∀ (D : Nat) (xs : List (P2 × P2)) (W : World), w.heap.size ≤ D → S xs → I xs W → W.heap[D]? = some (.deferred (some [])) → Q .normal { a with defers := { target := .collected D, args := #[] } :: a.defers } W)
 (hstop : ∀ (D : Nat) (c : Code) (pre : List (P2 × P2)) (W : World), w.heap.size ≤ D → Sp pre → Ix c pre W → W.heap[D]? = some (.deferred (some [])) → c.wp P Q { a with defers := { target := .collected D, args := #[] } :: a.defers } W) :
 (Code.rangeFunc g #[p, q] assign body).wp P Q a w :=
 (wpIn_wide (n := 5)).1 (wpIn_rangeX rfl (by omega) hg trivial eg hseq hKt hKb hb0 (fun _ => rfl) I Ix hI hIx h0 (fun e => by cases e)
   (fun pre x a' W => ∃ B8 B9, a' = { tmps := (((a.tmps.setIfInBounds p (.agg #[.int .i64 x.1.1, .int .i64 x.1.2])).setIfInBounds q (.agg #[.int .i64 x.2.1, .int .i64 x.2.2])).setIfInBounds s (.pointer (some ⟨B8, 0, none⟩))).setIfInBounds r (.pointer (some ⟨B9, 0, none⟩)), defers := [] } ∧ BlkI W B8 T [x.1.1, x.1.2] ∧ BlkI W B9 T [x.2.1, x.2.2] ∧ w.heap.size ≤ B8 ∧ w.heap.size ≤ B9 ∧ X pre x)
   (fun pre x a' _ A B row ⟨B8, B9, h1, h2, h3, h4, h5, h6⟩ hg hr => ⟨B8, B9, h1, blk_own h2 hg (fun r e => ne_of_blk h2 (hr r e).2), blk_own h3 hg (fun r e => ne_of_blk h3 (hr r e).2), h4, h5, h6⟩)
   (fun l pre x W K hi hx hK => by
     have e : ((#[p, q].zip #[Value.agg #[.int .i64 x.1.1, .int .i64 x.1.2], Value.agg #[.int .i64 x.2.1, .int .i64 x.2.2]]).foldl (fun t (p, v) => t.setIfInBounds p v) a.tmps) = (a.tmps.setIfInBounds p (.agg #[.int .i64 x.1.1, .int .i64 x.1.2])).setIfInBounds q (.agg #[.int .i64 x.2.1, .int .i64 x.2.2]) := by simp
     rw [e]
     have hW := hsz _ _ hi
     exact hassign l x W K (fun B8 B9 W' hb h8 h9 n8 n9 => hK _ _ ((keeps_of_below hb).from _) (hKl _ _ _ hi hb) (hI _ _ _ none hi (grownD hb) (fun r e => by cases e)) ⟨B8, B9, rfl, h8, h9, by omega, by omega, hx⟩))
   (fun l pre x a' W hi ⟨B8, B9, e, h8, h9, n8, n9, hx⟩ => by subst e; exact hbody l pre x B8 B9 W hi hx h8 h9 n8 n9) hdone (fun D c pre W h1 h2 h3 h4 => wpIn_wide.2 (hstop D c pre W h1 h2 h3 h4)))
/-- the first pulses that differ. -/
def difF (l : List (P2 × P2)) : Option (P2 × P2) := l.find? fun x => x.1 != x.2
def difE (ca cb : Int) (la lb : List P2) : Int := firstE [logE ca la, logE cb lb]
def difO (ca cb : Int) (la lb : List P2) : Option (P2 × P2) := if difE ca cb la lb = 0 then difF (bothL la lb) else none
def difT (o : Option (P2 × P2)) : Int := match o with | some x => x.1.1 | none => 0
/-- the invariant of the loop of Differ: the results' cells H, H + 1, H + 2. -/
def DfI (w : World) (H N : Nat) (pre : List (P2 × P2)) (W : World) : Prop :=
 (∀ x ∈ pre, x.1 = x.2) ∧ Blk W H 3 [.int .i64 0] ∧ Blk W (H + 1) 4 [.bool false] ∧ Blk W (H + 2) 27 [.int .i64 0] ∧ Below w.heap.size w W ∧ N ≤ W.heap.size
def DfX (w : World) (H : Nat) (L : List (P2 × P2)) (c : Code) (pre : List (P2 × P2)) (W : World) : Prop :=
 c = .ret ∧ ∃ pre' x, (pre = pre' ++ [x] ∧ ∃ post, L = pre ++ post) ∧ (∀ y ∈ pre', y.1 = y.2) ∧ x.1 ≠ x.2 ∧ Blk W H 3 [.int .i64 x.1.1] ∧ Blk W (H + 1) 4 [.bool true] ∧ Blk W (H + 2) 27 [.int .i64 0] ∧ Below w.heap.size w W
theorem DfI.own (w : World) (H N : Nat) {B : Nat} (hB : w.heap.size ≤ B) : OwnFrom B (DfI w H N) := by
 rintro pre A B' row ⟨h1, h2, h3, h4, h5, h6⟩ hg hr
 have hb : ∀ {k : Nat} {T : TypeId} {vs : List Value}, Blk A k T vs → Blk B' k T vs := fun hk => blk_own hk hg (fun r e => ne_of_blk hk (hr r e).2)
 exact ⟨h1, hb h2, hb h3, hb h4, below_grown h5 hg (fun r e => by have := (hr r e).1; omega) (Nat.le_refl _), Nat.le_trans h6 hg.size⟩
theorem DfX.own (w : World) (H : Nat) (L : List (P2 × P2)) {B : Nat} (hB : w.heap.size ≤ B) (c : Code) : OwnFrom B (DfX w H L c) := by
 rintro pre A B' row ⟨h1, pre', x, h2, h3, h4, h5, h6, h7, h8⟩ hg hr
 have hb : ∀ {k : Nat} {T : TypeId} {vs : List Value}, Blk A k T vs → Blk B' k T vs := fun hk => blk_own hk hg (fun r e => ne_of_blk hk (hr r e).2)
 exact ⟨h1, pre', x, h2, h3, h4, hb h5, hb h6, hb h7, below_grown h8 hg (fun r e => by have := (hr r e).1; omega) (Nat.le_refl _)⟩
theorem difF_none {l : List (P2 × P2)} (h : ∀ x ∈ l, x.1 = x.2) : difF l = none := by
 unfold difF
 rw [List.find?_eq_none]
 intro x hx
 rw [h x hx]; simp
theorem difF_some {pre post : List (P2 × P2)} {x : P2 × P2} (h : ∀ y ∈ pre, y.1 = y.2) (hx : x.1 ≠ x.2) : difF (pre ++ x :: post) = some x := by
 unfold difF
 rw [List.find?_append]
 have : pre.find? (fun x => x.1 != x.2) = none := difF_none h
 rw [this, List.find?_cons]
 have : (x.1 != x.2) = true := by simpa using hx
 rw [this]; rfl
/-- three cells of results, set. -/
def setD (W : World) (H : Nat) (t : Int) (is : Bool) (e : Int) : World := ((W.setCell ⟨H, 0, none⟩ (.int .i64 t)).setCell ⟨H + 1, 0, none⟩ (.bool is)).setCell ⟨H + 2, 0, none⟩ (.int .i64 e)
theorem setD_facts {W : World} {H : Nat} {a b c : Value} (h0 : Blk W H 3 [a]) (h1 : Blk W (H + 1) 4 [b]) (h2 : Blk W (H + 2) 27 [c]) (t : Int) (is : Bool) (e : Int) :
 Blk (setD W H t is e) H 3 [.int .i64 t] ∧ Blk (setD W H t is e) (H + 1) 4 [.bool is] ∧ Blk (setD W H t is e) (H + 2) 27 [.int .i64 e] :=
 ⟨((h0.set 0 _).other (by omega) _).other (by omega) _, ((h1.other (by omega) _).set 0 _).other (by omega) _, ((h2.other (by omega) _).other (by omega) _).set 0 _⟩
theorem setD_below {w W : World} {H n : Nat} (h : Below n w W) (hn : n ≤ H) (t : Int) (is : Bool) (e : Int) : Below n w (setD W H t is e) :=
 ((h.setCell (by simpa using hn) _).setCell (by simp; omega) _).setCell (by simp; omega) _
theorem setD_keeps (W : World) (H : Nat) (t : Int) (is : Bool) (e : Int) : KeepsOthers W (setD W H t is e) := ((KeepsOthers.setCell _ _ _).trans (KeepsOthers.setCell _ _ _)).trans (KeepsOthers.setCell _ _ _)
set_option maxRecDepth 100000 in
set_option maxHeartbeats 4000000 in
theorem Differ_any (ca cb : Int) (a1 a2 : Option Addr) (n1 c1 n2 c2 : Nat) (la lb : List P2) (w : World) (hla : la.length ≤ 500000) (hlb : lb.length ≤ 500000) (hva : Prs w (.slice a1 n1 c1) la) (hvb : Prs w (.slice a2 n2 c2) lb) :
 Calls Tryz.prog 19 #[.agg #[.int .i64 ca, .slice a1 n1 c1], .agg #[.int .i64 cb, .slice a2 n2 c2]] w fun r w' => r = .returned (.tuple #[.int .i64 (difT (difO ca cb la lb)), .bool (difO ca cb la lb).isSome, .int .i64 (difE ca cb la lb)]) ∧ Below w.heap.size w w' := by
 have T0 := Lib.hid (fun W (h : Prs W (.slice a1 n1 c1) la) => logCheck_any ca a1 n1 c1 la W (by omega) h)
 have T1 := Lib.hid (fun W (h : Prs W (.slice a2 n2 c2) lb) => logCheck_any cb a2 n2 c2 lb W (by omega) h)
 have hE : difE ca cb la lb = firstE [logE ca la, logE cb lb] := rfl
 have hok : difE ca cb la lb = 0 → TrOk la ∧ TrOk lb := fun h => by
  rw [hE, firstE_cons0, firstE_cons0] at h
  unfold logE at h
  rw [firstE_cons0, firstE_cons0, firstE_cons0, firstE_cons0] at h
  exact ⟨trainE_ok h.1.2.1, trainE_ok h.2.1.2.1⟩
 have hO0 : difE ca cb la lb ≠ 0 → difO ca cb la lb = none := fun h => by unfold difO; rw [if_neg h]
 have hO1 : difE ca cb la lb = 0 → difO ca cb la lb = difF (bothL la lb) := fun h => by unfold difO; rw [if_pos h]
 have HN1 := Lib.hid hva.len
 obtain ⟨e0, he0⟩ : ∃ e, e = logE ca la := ⟨_, rfl⟩
 obtain ⟨e1, he1⟩ : ∃ e, e = logE cb lb := ⟨_, rfl⟩
 rw [← he0] at T0 hE
 rw [← he1] at T1 hE
 have TF := Lib.hid (fun (u : Value) (W : World) (h : Ints W u [e0, e1]) => first_any u _ W (by simp [maxLen]) h)
 rw [← hE] at TF
 obtain ⟨E, hEE⟩ : ∃ E, E = difE ca cb la lb := ⟨_, rfl⟩
 obtain ⟨O, hO⟩ : ∃ O, O = difO ca cb la lb := ⟨_, rfl⟩
 rw [← hEE] at TF hok hO0 hO1 ⊢
 rw [← hO] at hO0 hO1 ⊢
 have HOK := Lib.hid hok
 have HO0 := Lib.hid hO0
 have HO1 := Lib.hid hO1
 clear hE he0 he1 hEE hO hok hO0 hO1
 refine calls_of_postR Tryz.func19 rfl ?_
 simp only [Tryz.ntmps19, List.size_toArray, List.length_cons, List.length_nil, Nat.reduceAdd, Nat.reduceSub, Array.replicate_succ, Array.replicate_zero, List.push_toArray, List.append_toArray, List.nil_append, List.cons_append]
 go_upto_region 1 with fail
 obtain ⟨W1, hW1⟩ : ∃ v, v = World.alloc w (Obj.cells #[.int .i64 ca, .slice a1 n1 c1] 32) := ⟨_, rfl⟩
 have kW1 : Below w.heap.size w W1 := by rw [hW1]; exact below_new _ _
 have iW1 : Blk W1 (w.heap.size) 32 [.int .i64 ca, .slice a1 n1 c1] := by rw [hW1]; exact Blk.new _ _ _
 have sW1 : W1.heap.size = w.heap.size + 1 := by rw [hW1]; simp
 rw [← hW1]
 clear hW1
 obtain ⟨W2, hW2⟩ : ∃ v, v = World.alloc W1 (Obj.cells #[.int .i64 cb, .slice a2 n2 c2] 32) := ⟨_, rfl⟩
 have kW2 : Below W1.heap.size W1 W2 := by rw [hW2]; exact below_new _ _
 have iW2 : Blk W2 (w.heap.size + 1) 32 [.int .i64 cb, .slice a2 n2 c2] := by rw [hW2, ← sW1]; exact Blk.new _ _ _
 have sW2 : W2.heap.size = w.heap.size + 1 + 1 := by rw [hW2]; simp [sW1]
 rw [← hW2]
 clear hW2
 obtain ⟨W3, hW3⟩ : ∃ v, v = World.alloc W2 (Obj.cells #[.int .i64 0] 3) := ⟨_, rfl⟩
 have kW3 : Below W2.heap.size W2 W3 := by rw [hW3]; exact below_new _ _
 have iW3 : Blk W3 (w.heap.size + 1 + 1) 3 [.int .i64 0] := by rw [hW3, ← sW2]; exact Blk.new _ _ _
 have sW3 : W3.heap.size = w.heap.size + 1 + 1 + 1 := by rw [hW3]; simp [sW2]
 rw [← hW3]
 clear hW3
 obtain ⟨W4, hW4⟩ : ∃ v, v = World.alloc W3 (Obj.cells #[.bool false] 4) := ⟨_, rfl⟩
 have kW4 : Below W3.heap.size W3 W4 := by rw [hW4]; exact below_new _ _
 have iW4 : Blk W4 (w.heap.size + 1 + 1 + 1) 4 [.bool false] := by rw [hW4, ← sW3]; exact Blk.new _ _ _
 have sW4 : W4.heap.size = w.heap.size + 1 + 1 + 1 + 1 := by rw [hW4]; simp [sW3]
 rw [← hW4]
 clear hW4
 obtain ⟨W5, hW5⟩ : ∃ v, v = World.alloc W4 (Obj.cells #[.int .i64 0] 27) := ⟨_, rfl⟩
 have kW5 : Below W4.heap.size W4 W5 := by rw [hW5]; exact below_new _ _
 have iW5 : Blk W5 (w.heap.size + 1 + 1 + 1 + 1) 27 [.int .i64 0] := by rw [hW5, ← sW4]; exact Blk.new _ _ _
 have sW5 : W5.heap.size = w.heap.size + 1 + 1 + 1 + 1 + 1 := by rw [hW5]; simp [sW4]
 rw [← hW5]
 clear hW5
 have kA := bthen (bthen kW3 kW4) kW5
 have i1 := iW1.carry (bthen kW2 kA)
 have i2 := iW2.carry kA
 have i3 := iW3.carry (bthen kW4 kW5)
 have i4 := iW4.carry kW5
 have i5 := iW5
 have hB := bthen (bthen kW1 kW2) kA
 have a0 := i1.cell (j := 0) (v := .int .i64 ca) rfl
 have a1' := i1.cell (j := 1) (v := .slice a1 n1 c1) rfl
 have b0 := i2.cell (j := 0) (v := .int .i64 cb) rfl
 have b1 := i2.cell (j := 1) (v := .slice a2 n2 c2) rfl
 replace hva := hva.carry hB
 replace hvb := hvb.carry hB
 clear iW1 sW1 kW1 iW2 sW2 kW2 iW3 sW3 kW3 iW4 sW4 kW4 iW5 sW5 kW5 kA i1 i2
 refine wp_region_E 6 (by kernel_rfl) ?_
 obtain ⟨wz, hwz⟩ : ∃ v, v = W5.drew := ⟨_, rfl⟩
 rw [← hwz]
 have hlz : Below W5.heap.size W5 wz := by rw [hwz]; exact (Below.refl _ _).drew
 have hbz := bthen hB hlz
 have a0 := cellb a0 hlz
 have a1' := cellb a1' hlz
 have b0 := cellb b0 hlz
 have b1 := cellb b1 hlz
 have hva := hva.carry hlz
 have hvb := hvb.carry hlz
 have i3 := i3.carry hlz
 have i4 := i4.carry hlz
 have i5 := i5.carry hlz
 clear hwz hlz
 refine zV 0 ⟨some 10, .load 32 (.tmp 2), 32, "valve.go:144", #[], none⟩ rfl ?_ (hv := fun w hE => by have a0 := cellb a0 hE; have a1' := cellb a1' hE; have b0 := cellb b0 hE; have b1 := cellb b1 hE; (try dsimp only); go_simp; try rfl)
 simp only [Act.put, zS]
 refine zV 2 ⟨some 12, .load 32 (.tmp 3), 32, "valve.go:144", #[], none⟩ rfl ?_ (hv := fun w hE => by have a0 := cellb a0 hE; have a1' := cellb a1' hE; have b0 := cellb b0 hE; have b1 := cellb b1 hE; (try dsimp only); go_simp; try rfl)
 simp only [Act.put, zS]
 refine zB 1 ⟨some 11, .call ⟨.value (.func 42), #[.tmp 10], #[32]⟩, 27, "valve.go:144", #[⟨0, .data⟩], none⟩ (fun w hE => T0.out w (hva.carry hE)) rfl ?_
 simp only [Act.put, zS]
 refine zB 3 ⟨some 13, .call ⟨.value (.func 42), #[.tmp 12], #[32]⟩, 27, "valve.go:144", #[⟨2, .data⟩, ⟨1, .chain⟩], none⟩ (fun w hE => T1.out w (hvb.carry hE)) rfl ?_
 simp only [Act.put, zS]
 refine wpAnyE_one (i := 4) (o := ⟨some 14, .buildSlice 150 2 #[(0, .tmp 11), (1, .tmp 13)], 150, "valve.go:144", #[⟨1, .data⟩, ⟨3, .data⟩], none⟩) (by kernel_rfl) rfl (fun wy1 hE K hK => ?_)
 have a0 := cellb a0 hE
 have a1' := cellb a1' hE
 have b0 := cellb b0 hE
 have b1 := cellb b1 hE
 have hva := hva.carry hE
 have hvb := hvb.carry hE
 have i3 := i3.carry hE
 have i4 := i4.carry hE
 have i5 := i5.carry hE
 have hbz1 := bthen hbz hE
 clear hE
 go_simp
 obtain ⟨wx1, hwz⟩ : ∃ v, v = wy1.alloc (Obj.cells #[.int .i64 e0, .int .i64 e1] 27) := ⟨_, rfl⟩
 rw [← hwz]
 have hl : Below wy1.heap.size wy1 wx1 := by rw [hwz]; exact below_new _ _
 have hcz1 := bthen hbz1 hl
 have iN : BlkI wx1 wy1.heap.size 27 [e0, e1] := by rw [hwz]; exact Blk.new _ _ _
 generalize wy1.heap.size = G at iN ⊢
 have a0 := cellb a0 hl
 have a1' := cellb a1' hl
 have b0 := cellb b0 hl
 have b1 := cellb b1 hl
 have hva := hva.carry hl
 have hvb := hvb.carry hl
 have i3 := i3.carry hl
 have i4 := i4.carry hl
 have i5 := i5.carry hl
 clear hwz
 refine hK _ _ (fun _ => hl) ?_
 clear hK K hl
 try simp only [Act.put, zS]
 refine zB 5 ⟨some 15, .call ⟨.value (.func 46), #[.tmp 14], #[150]⟩, 27, "valve.go:144", #[⟨4, .data⟩, ⟨3, .chain⟩], none⟩ (fun w hE => ofPure (TF.out _ w ((BlkI.ints iN rfl).carry hE))) rfl ?_
 simp only [Act.put, zS]
 refine wpAnyE_one (i := 6) (o := ⟨some 7, .assign (.tmp 15), 27, "valve.go:144", #[⟨5, .data⟩, ⟨5, .chain⟩, ⟨0, .phase⟩, ⟨1, .phase⟩, ⟨2, .phase⟩, ⟨3, .phase⟩, ⟨4, .phase⟩, ⟨5, .phase⟩], none⟩) (by kernel_rfl) rfl (fun wy2 hE K hK => ?_)
 have a0 := cellb a0 hE
 have a1' := cellb a1' hE
 have b0 := cellb b0 hE
 have b1 := cellb b1 hE
 have hva := hva.carry hE
 have hvb := hvb.carry hE
 have i3 := i3.carry hE
 have i4 := i4.carry hE
 have i5 := i5.carry hE
 have hbz2 := bthen hcz1 hE
 go_simp
 refine hK _ _ (fun _ => Below.refl _ _) ?_
 clear hK K hE
 try simp only [Act.put, zS]
 refine wpAnyE_done (by kernel_rfl) (fun wy3 hE => ?_) _
 have hbz3 := bthen hbz2 hE
 have a0 := cellb a0 hE
 have a1' := cellb a1' hE
 have b0 := cellb b0 hE
 have b1 := cellb b1 hE
 have hva := hva.carry hE
 have hvb := hvb.carry hE
 have i3 := i3.carry hE
 have i4 := i4.carry hE
 have i5 := i5.carry hE
 clear hE
 have hB := hbz3
 obtain ⟨W9, hW9⟩ : ∃ v, v = wy3 := ⟨_, rfl⟩
 rw [← hW9] at hB a0 a1' b0 b1 hva hvb i3 i4 i5 ⊢
 clear hW9
 have hH : w.heap.size + 1 + 1 + 1 + 1 < W9.heap.size := Blk.lt i5
 obtain ⟨H, hHe⟩ : ∃ H, H = w.heap.size + 1 + 1 := ⟨_, rfl⟩
 rw [← hHe] at i3 i4 i5 hH ⊢
 have hHw : w.heap.size ≤ H := by omega
 clear hHe
 by_cases h0 : E = 0
 ·subst h0
  obtain ⟨hoka, hokb⟩ := HOK.out (by trivial)
  have hO := HO1.out (by trivial)
  subst hO
  have TB := Lib.hid (fun W (h : Prs W (.slice a2 n2 c2) lb) => both_any ca cb a1 a2 n1 c1 n2 c2 lb W hokb h)
  have HRG := Lib.hid (fun x (hx : x ∈ la) => show 0 ≤ x.1 ∧ x.1 ≤ 1000000 by have := (hoka.mem hx).1; omega)
  clear T0 T1 TF HO0 HO1 HOK hoka hokb
  go_wp2_with fail
  refine (TB.out W9 hvb).mono ?_
  rintro e V ⟨⟨A, M, R, rfl, iA, iM, hR, -, -, -⟩, hbV⟩
  have hvaV := hva.carry hbV
  have hBV := bthen hB hbV
  have i3 := Blk.carry i3 hbV
  have i4 := Blk.carry i4 hbV
  have i5 := Blk.carry i5 hbV
  obtain ⟨tb, htb, hseq⟩ := both_seq 4 (by omega) A M R n1 c1 n2 ca a1 la lb V V (Below.refl _ _) hvaV (by have := HN1.out; omega) HRG.out iA iM hR
  have hHV : H + 2 < V.heap.size := Blk.lt i5
  have hbl : ∀ b ∈ [A, M, R, tb], b < V.heap.size := by
   intro b hb
   have := Blk.lt iA
   have := Blk.lt iM
   have := hR.lt
   simp at hb
   omega
  have HBL := Lib.hid hbl
  have HSEQ := Lib.hid hseq
  clear a0 a1' b0 b1 hva hvb hbV hvaV TB hseq hbl iA iM hR hB hH htb
  go_wp2_with fail
  refine wp_rangeP (s := 8) (r := 9) (T := 104) (gf := 124) (lb := #[.pointer (some ⟨A, 0, none⟩), .pointer (some ⟨M, 0, none⟩)]) (X := fun pre x => ∃ post, bothL la lb = pre ++ x :: post) rfl (enters_of Tryz.func124 (by kernel_rfl) rfl)
   HSEQ.out KpL.trans (fun W l o o' hl h h1 _ b hb => World.putObj_heap_other (by have := HBL.out b hb; omega)) (Below.refl _ _)
   (DfI w H V.heap.size) (DfX w H (bothL la lb)) (DfI.own w H _ hBV.size) (fun c => DfX.own w H _ hBV.size c)
   ⟨fun x hx => by simp at hx, i3, i4, i5, hBV, Nat.le_refl _⟩
   (fun pre W W' hI hb => KpL.of_below hb (fun b hb2 => by have := HBL.out b hb2; have := hI.2.2.2.2.2; omega))
   ?assign ?body (fun pre W hI => hI.2.2.2.2.2) ?done ?stop
  case assign =>
   clear i3 i4 i5
   intro l x W K hK
   obtain ⟨⟨x0, x1⟩, ⟨y0, y1⟩⟩ := x
   simp only at hK ⊢
   have HK := Lib.hid hK
   clear hK
   gi_upto_region 6 with fail
   obtain ⟨V1, hV1⟩ : ∃ v, v = World.alloc W (Obj.cells #[.int .i64 x0, .int .i64 x1] 104) := ⟨_, rfl⟩
   have kV1 : Below W.heap.size W V1 := by rw [hV1]; exact below_new _ _
   have iV1 : Blk V1 (W.heap.size) 104 [.int .i64 x0, .int .i64 x1] := by rw [hV1]; exact Blk.new _ _ _
   have sV1 : V1.heap.size = W.heap.size + 1 := by rw [hV1]; simp
   rw [← hV1]
   clear hV1
   clear sV1
   gi_wp2
   have k2 := below_new V1 (.cells #[.int .i64 y0, .int .i64 y1] 104)
   exact HK.out W.heap.size V1.heap.size _ (bthen kV1 k2) (Blk.carry iV1 k2) (BlkI.new V1 104 [y0, y1]) (Nat.le_refl _) kV1.size
  case body =>
   clear i3 i4 i5
   rintro ll pre ⟨⟨x0, x1⟩, ⟨y0, y1⟩⟩ B8 B9 W ⟨hgood, i3, i4, i5, hBW, hsz⟩ ⟨post, hpost⟩ h8 h9 n8 n9
   simp only at h8 h9
   simp only [List.setIfInBounds_toArray, List.set_cons_succ, List.set_cons_zero]
   have hwf : ∀ f, (Fence.wide.inRound ll).fn f := fun _ => trivial
   have p0 : W.cell? ⟨B8, 0, none⟩ = some (.int .i64 x0) := BlkI.cell h8 (j := 0) (by simp)
   have p1 : W.cell? ⟨B8, 1, none⟩ = some (.int .i64 x1) := BlkI.cell h8 (j := 1) (by simp)
   have q0 : W.cell? ⟨B9, 0, none⟩ = some (.int .i64 y0) := BlkI.cell h9 (j := 0) (by simp)
   have q1 : W.cell? ⟨B9, 1, none⟩ = some (.int .i64 y1) := BlkI.cell h9 (j := 1) (by simp)
   have nq := fun W => neqP x0 x1 y0 y1 W
   have HG := Lib.hid hgood
   have HP := Lib.hid (show ∃ post, bothL la lb = (pre ++ [((x0, x1), (y0, y1))]) ++ post from ⟨post, by rw [hpost]; simp⟩)
   clear hgood hpost h8 h9
   by_cases hx : (x0, x1) = (y0, y1)
   ·have nb : ((x0, x1) != (y0, y1)) = false := by simpa using hx
    have HX := Lib.hid hx
    clear hx
    rw [nb] at nq
    clear nb
    gi_wp2
    refine ⟨KeepsFrom.refl _ _, KpL.refl _ _, ?_, i3, i4, i5, hBW, hsz⟩
    intro x hx
    rcases List.mem_append.1 hx with h | h
    ·exact HG.out x h
    ·rw [List.mem_singleton] at h; subst h; exact HX.out
   ·have nb : ((x0, x1) != (y0, y1)) = true := by simpa using hx
    have HX := Lib.hid hx
    clear hx
    rw [nb] at nq
    clear nb
    have c3 := i3.cell (j := 0) (v := .int .i64 0) rfl
    have c4 := i4.cell (j := 0) (v := .bool false) rfl
    have c5 := i5.cell (j := 0) (v := .int .i64 0) rfl
    have f3 := i3.frozen 0
    have f4 := i4.frozen 0
    have f5 := i5.frozen 0
    have HF := Lib.hid (setD_facts i3 i4 i5 x0 true 0)
    clear i3 i4 i5
    gi_wp2
    exact ⟨(setD_keeps W H x0 true 0).from _, rfl, pre, _, ⟨rfl, HP.out⟩, HG.out, HX.out, HF.out.1, HF.out.2.1, HF.out.2.2, setD_below hBW hHw x0 true 0⟩
  case done =>
   clear i3 i4 i5
   rintro D ys W hD hS ⟨hgood, i3, i4, i5, hBW, hsz⟩ hK
   subst hS
   have HG := Lib.hid (difF_none hgood)
   have c3 := i3.cell (j := 0) (v := .int .i64 0) rfl
   have c4 := i4.cell (j := 0) (v := .bool false) rfl
   have c5 := i5.cell (j := 0) (v := .int .i64 0) rfl
   have f3 := i3.frozen 0
   have f4 := i4.frozen 0
   have f5 := i5.frozen 0
   obtain ⟨g3, g4, g5⟩ := setD_facts i3 i4 i5 0 false 0
   have hk2 : (setD W H 0 false 0).heap[D]? = some (.deferred (some [])) := (Below.heap_setCell _ _ _ _ (by simp; omega)).trans ((Below.heap_setCell _ _ _ _ (by simp; omega)).trans ((Below.heap_setCell _ _ _ _ (by simp; omega)).trans hK))
   have e3 := (blk_own g3 (grownBy_putObj' _ D (.deferred none)) (fun r e => by cases e; omega)).cell (j := 0) (v := .int .i64 0) rfl
   have e4 := (blk_own g4 (grownBy_putObj' _ D (.deferred none)) (fun r e => by cases e; omega)).cell (j := 0) (v := .bool false) rfl
   have e5 := (blk_own g5 (grownBy_putObj' _ D (.deferred none)) (fun r e => by cases e; omega)).cell (j := 0) (v := .int .i64 0) rfl
   have hB9 := setD_below hBW hHw 0 false 0
   unfold setD at e3 e4 e5 hk2 hB9
   clear hgood i3 i4 i5 g3 g4 g5
   go_wp2
   refine postR_mark (v := .tuple #[.int .i64 0, .bool false, .int .i64 0]) hk2 rfl ?_ ⟨by rw [HG.out]; rfl, hB9.trans (belowK_b (w := w) (Nat.le_refl _) _ D _ _ (by have := hBV.size; omega) hk2 rfl rfl)⟩
   simp [results, Tryz.f19, go_sem, e3, e4, e5]
  case stop =>
   clear i3 i4 i5
   rintro D c pre W hD - ⟨rfl, pre', x, ⟨rfl, post, hpost⟩, hgood, hx, i3, i4, i5, hBW⟩ hK
   rw [List.append_assoc] at hpost
   have HG := Lib.hid (show difF (bothL la lb) = some x by rw [hpost]; exact difF_some hgood hx)
   obtain ⟨⟨x0, x1⟩, y⟩ := x
   simp only at i3
   have e3 := (blk_own i3 (grownBy_putObj' _ D (.deferred none)) (fun r e => by cases e; omega)).cell (j := 0) (v := .int .i64 x0) rfl
   have e4 := (blk_own i4 (grownBy_putObj' _ D (.deferred none)) (fun r e => by cases e; omega)).cell (j := 0) (v := .bool true) rfl
   have e5 := (blk_own i5 (grownBy_putObj' _ D (.deferred none)) (fun r e => by cases e; omega)).cell (j := 0) (v := .int .i64 0) rfl
   clear hgood hx hpost i3 i4 i5
   go_wp2
   refine postR_mark (v := .tuple #[.int .i64 x0, .bool true, .int .i64 0]) hK rfl ?_ ⟨by rw [HG.out]; rfl, hBW.trans (belowK_b (w := w) (Nat.le_refl _) _ D _ _ (by have := hBV.size; omega) hK rfl rfl)⟩
   simp [results, Tryz.f19, go_sem, e3, e4, e5]
 ·have z : (E == 0) = false := by rw [beq_eq_false_iff_ne]; exact h0
  obtain rfl := HO0.out h0
  have c3 := i3.cell (j := 0) (v := .int .i64 0) rfl
  have c4 := i4.cell (j := 0) (v := .bool false) rfl
  have c5 := i5.cell (j := 0) (v := .int .i64 0) rfl
  have f3 := i3.frozen 0
  have f4 := i4.frozen 0
  have f5 := i5.frozen 0
  obtain ⟨g3, g4, g5⟩ := setD_facts i3 i4 i5 0 false E
  have e3 := g3.cell (j := 0) (v := .int .i64 0) rfl
  have e4 := g4.cell (j := 0) (v := .bool false) rfl
  have e5 := g5.cell (j := 0) (v := .int .i64 E) rfl
  unfold setD at e3 e4 e5
  clear HO0 HO1 g3 g4 g5 i3 i4 i5
  go_wp2
  refine postR_ret (v := .tuple #[.int .i64 0, .bool false, .int .i64 E]) ?_ rfl ⟨rfl, ?_⟩
  ·simp [results, Tryz.f19, go_sem, e3, e4, e5]
  ·exact setD_below hB hHw 0 false E
end
end Go.Proofs.YtpmngcffkhbofaaGreatDoor

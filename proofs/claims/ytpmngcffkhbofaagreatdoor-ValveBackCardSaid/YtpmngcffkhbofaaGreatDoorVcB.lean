/- Package valve: the plans, visited by a function that calls itself, with a yield. -/
import Derived.Test.YtpmngcffkhbofaaGreatDoorVcA
import Derived.Maps.OwnIn
namespace Go.Proofs.YtpmngcffkhbofaaGreatDoor
set_option linter.unusedSimpArgs false
set_option linter.unusedVariables false
open Go.RowKit Go.Maps
section
attribute [local go_sem] Oper.semAt_some
set_option maxHeartbeats 1000000 in
theorem CloneN_any (v : Value) (l : List Int) (w : World) (hv : Ints w v l) (hl : l.length ≤ 1000000) :
 Calls Tryz.prog 186 #[v] w fun e w' => (∃ u, e = .returned u ∧ OwnI 3 w.heap.size w' u l) ∧ Below w.heap.size w w' := by
 obtain ⟨i0, hi, hz0, hz1, hz2⟩ := info_parts Tryz.infZint
 rcases Nat.eq_zero_or_pos l.length with h0 | h0
 ·obtain rfl : l = [] := List.length_eq_zero_iff.1 h0
  obtain ⟨a, cap, rfl, _, _⟩ := hv
  cases a with
  | none =>
    have hnil : ∀ W, (binOp .eql 63 (.slice none 0 cap) (.slice none 0 0)).run Tryz.prog W = .ok (.bool true) W := fun W => Lib.run_eql_slice_nil W _ _ _ _ _ _ _ Tryz.undZint
    go_enter Tryz.func186, Tryz.ntmps186
    go_wp2
    go_ret
    exact ⟨⟨_, rfl, ⟨rfl, .inl ⟨rfl, rfl⟩⟩⟩, Below.refl _ _⟩
  | some a =>
    have hnil : ∀ W, (binOp .eql 63 (.slice (some a) 0 cap) (.slice none 0 0)).run Tryz.prog W = .ok (.bool false) W := fun W => Lib.run_eql_slice_nil W _ _ _ _ _ _ _ Tryz.undZint
    have happ := fun (W : World) (ty : TypeId) (g : Nat) => run_append_empty (P := Tryz.prog) W 63 63 ty 3 3 i0 _ Tryz.undZint Tryz.undZint hi hz0 g 0 (some a) cap
    go_enter Tryz.func186, Tryz.ntmps186
    go_wp2
    go_ret
    exact ⟨⟨_, rfl, ⟨rfl, .inr ⟨w.heap.size, 0, #[], rfl, Nat.le_refl _, World.alloc_heap_new w _, Nat.le_refl _, by simp, rfl, rfl⟩⟩⟩, below_new _ _⟩
 ·obtain ⟨b, o, cap, rfl, _⟩ := (id hv).head h0
  have hnil : ∀ W, (binOp .eql 63 (.slice (some ⟨b, o, none⟩) l.length cap) (.slice none 0 0)).run Tryz.prog W = .ok (.bool false) W := fun W => Lib.run_eql_slice_nil W _ _ _ _ _ _ _ Tryz.undZint
  go_enter Tryz.func186, Tryz.ntmps186
  go_wp2_with (at_builtin; refine wpList_append_freshO rfl (.tmp 5) (.tmp 6) 63 63 3 rfl i0 (.int .i64 0) 1 8 Tryz.undZint hi hz0 hz1 hz2 rfl w.heap.size 0 rfl _ l.length _ rfl ((hv.carry (below_new _ _)).src Tryz.undZint h0) h0 (by unfold maxLen; omega) (by omega) ?_; intro u w2 hown hb)
  have hown' : OwnI 3 w.heap.size w2 u l := OwnI.base hown (by simp)
  have hb' := bthen (below_new w (.cells #[] 3)) hb
  clear hown hb hnil
  go_ret
  exact ⟨⟨_, rfl, hown'⟩, hb'⟩
end
/-- what a body keeps: what lay below n₀, and the cells from n₁ on. -/
def KPl (n₀ n₁ : Nat) (A B : World) : Prop :=
 Below n₀ A B ∧ ∀ (k : Nat) (c : Array Value) (T : TypeId), n₁ ≤ k → A.heap[k]? = some (.cells c T (0, 0)) → B.heap[k]? = some (.cells c T (0, 0))
theorem KPl.refl (n₀ n₁ : Nat) (A : World) : KPl n₀ n₁ A A := ⟨Below.refl _ _, fun _ _ _ _ h => h⟩
theorem KPl.trans {n₀ n₁ : Nat} {A B C : World} (h : KPl n₀ n₁ A B) (k : KPl n₀ n₁ B C) : KPl n₀ n₁ A C :=
 ⟨h.1.trans k.1, fun i c T hi hc => k.2 i c T hi (h.2 i c T hi hc)⟩
theorem KPl.below {n₀ n₁ : Nat} {A B : World} (h : Below A.heap.size A B) (hn : n₀ ≤ A.heap.size) : KPl n₀ n₁ A B :=
 ⟨h.mono hn, fun k _ _ _ hc => (h.block k (Array.getElem?_eq_some_iff.1 hc).1).trans hc⟩
theorem KPl.turn {n₀ n₁ : Nat} (W : World) (l : Nat) (o o' : Obj) (hn : n₀ ≤ l) (h : W.heap[l]? = some o) (h1 : o.isCells = false) : KPl n₀ n₁ W (W.putObj l o') :=
 ⟨(Below.refl n₀ W).grown (grownBy_putObj' W l o') (by have := (Array.getElem?_eq_some_iff.1 h).1; omega) (fun k e => by cases e; omega), fun k c T _ hc => by
   by_cases e : k = l
   ·subst e; rw [hc] at h; cases h; cases h1
   ·exact (World.putObj_heap_other e).trans hc⟩
theorem OwnI.kpl {n₀ n₁ : Nat} {e : TypeId} {A B : World} {v : Value} {l : List Int} (h : OwnI e n₁ A v l) (k : KPl n₀ n₁ A B) : OwnI e n₁ B v l := by
 obtain ⟨h1, h2⟩ := h
 refine ⟨h1, ?_⟩
 rcases h2 with h2 | ⟨g, cap, cur, hv, hg, hh, r⟩
 ·exact .inl h2
 ·exact .inr ⟨g, cap, cur, hv, hg, k.2 _ _ _ hg hh, r⟩
/-- these cells stand there. -/
def At (w : World) (B o : Nat) (vs : List Value) : Prop := ∀ (i : Nat) (u : Value), vs[i]? = some u → w.cell? ⟨B, o + i, none⟩ = some u
theorem At.carry {w w' : World} {B o : Nat} {vs : List Value} (h : At w B o vs) (hb : Below w.heap.size w w') : At w' B o vs := fun i u hi => cellb (h i u hi) hb
theorem At.four {w : World} {B o : Nat} {a b c d : Value} (h0 : w.cell? ⟨B, o, none⟩ = some a) (h1 : w.cell? ⟨B, o + 1, none⟩ = some b) (h2 : w.cell? ⟨B, o + 2, none⟩ = some c) (h3 : w.cell? ⟨B, o + 3, none⟩ = some d) : At w B o [a, b, c, d] := fun i u hi => by
 match i with
 | 0 => simp at hi; subst hi; exact h0
 | 1 => simp at hi; subst hi; exact h1
 | 2 => simp at hi; subst hi; exact h2
 | 3 => simp at hi; subst hi; exact h3
 | i + 4 => simp at hi
/-- what the function does: it hands over the plans, or stops. -/
def ExtP (J Jx : List (Value × List Int) → World → Prop) (n₀ n₁ : Nat) (pre : List (Value × List Int)) (L : List (List Int)) (W : World) (e : Ending) (W' : World) : Prop :=
 ∃ r : Bool, e = .returned (.bool r) ∧ (r = true → ∃ xs : List (Value × List Int), xs.map Prod.snd = pre.map Prod.snd ++ L ∧ J xs W' ∧ KPl n₀ n₁ W W') ∧ (r = false → ∃ xs, Jx xs W')
set_option maxRecDepth 100000 in
set_option maxHeartbeats 4000000 in
theorem extend_any (w0 : World) (n₁ l : Nat) (vm vo : Value) (ms : List Mo) (os : List I3) (LL : List (List Int)) (hml : ms.length ≤ 1000) (hol : os.length ≤ 1000) (hm : Rw 4 mV w0 vm ms) (ho : Rw 3 iV w0 vo os)
 (hor : ∀ o ∈ os, 0 ≤ o.2.1 ∧ o.2.1 ≤ 100) (hmr : ∀ m ∈ ms, 0 ≤ m.2.2.2 ∧ m.2.2.2 ≤ 100) (hn0 : w0.heap.size ≤ n₁) (J Jx : List (Value × List Int) → World → Prop)
 (hJ : ∀ pre A B, J pre A → A.grownBy B none → J pre B)
 (hY : ∀ pre x W, J pre W → (OwnI 3 n₁ W x.1 x.2 ∧ Below w0.heap.size w0 W ∧ ∃ post, LL = pre.map Prod.snd ++ x.2 :: post) → YieldAt Fence.wide 3 Tryz.prog l #[x.1] W fun e W' =>
   (e = .returned (.bool true) ∧ J (pre ++ [x]) W' ∧ KPl w0.heap.size n₁ W W') ∨ (e = .returned (.bool false) ∧ Jx (pre ++ [x]) W')) :
 ∀ (n : Nat) (b : List Int) (vb : Value) (pre : List (Value × List Int)) (W : World), b.length + n = ms.length → (∀ k ∈ b, 0 ≤ k ∧ k < os.length) → OwnI 3 n₁ W vb b → Below w0.heap.size w0 W → n₁ ≤ W.heap.size → J pre W → (∃ post, LL = pre.map Prod.snd ++ (extL ms os n b ++ post)) →
  Calls Tryz.prog 144 #[vm, vo, vb, .func (.yield l) #[] #[]] W (ExtP J Jx w0.heap.size n₁ pre (extL ms os n b) W) := by
 intro n
 induction n with
 | zero =>
   intro b vb pre W hlen hbr hown hbel hn1 hj hpost
   have TF := Lib.hid (fits_any vm vo vb ms os b W (hm.carry hbel) (ho.carry hbel) hown.ints hml hol (by omega) hbr hor hmr)
   have HY := Lib.hid hY
   have HJ := Lib.hid hJ
   obtain ⟨ma, mc, rfl, -⟩ := hm.slice
   obtain ⟨ba, bc, rfl⟩ := own_slice hown
   have HOWN := Lib.hid hown
   obtain ⟨NB, hNB⟩ : ∃ N, N = b.length := ⟨_, rfl⟩
   have e0 : ms.length = NB := by omega
   rw [← hNB] at TF HOWN ⊢
   rw [e0] at TF ⊢
   cases hf : fitB ms os b with
   | false =>
     rw [hf] at TF
     have HF := Lib.hid (extL_no (n := 0) hf)
     clear hf hY hJ hm ho hown hbr hor hmr hpost hlen e0 hNB
     go_enter Tryz.func144, Tryz.ntmps144
     go_wp2_with fail
     refine TF.out.mono ?_
     rintro e w1 ⟨rfl, hb1⟩
     clear TF
     go_wp2
     go_ret
     exact ⟨true, rfl, fun _ => ⟨pre, by rw [HF.out]; simp, HJ.out _ _ _ hj (grownD hb1), KPl.below hb1 (by omega)⟩, fun h => by cases h⟩
   | true =>
     rw [hf] at TF
     have hL := extL_end hf
     rw [hL] at hpost ⊢
     have HP := Lib.hid hpost
     clear hf hY hJ hm ho hown hbr hor hmr hpost hlen e0 hNB hL
     go_enter Tryz.func144, Tryz.ntmps144
     go_wp2_with fail
     refine TF.out.mono ?_
     rintro e w1 ⟨rfl, hb1⟩
     have hj1 := HJ.out _ _ _ hj (grownD hb1)
     have hown1 := HOWN.out.carry hb1
     obtain ⟨fn, tmps, assign, body, hy, hR⟩ := HY.out pre (.slice ba NB bc, b) w1 hj1 ⟨hown1, hbel.trans (hb1.mono hbel.size), by obtain ⟨post, h⟩ := HP.out; exact ⟨post, by rw [h]; rfl⟩⟩
     have HK := Lib.hid (KPl.below (n₁ := n₁) hb1 (show w0.heap.size ≤ W.heap.size by omega))
     clear TF hj hj1 hown1
     go_upto_region 4 with fail
     refine (wpIn_wide (n := 4)).1 ?_
     gi_wp2
     refine hR.mono ?_
     clear hR hy
     rintro e W3 (⟨rfl, hj3, hk3⟩ | ⟨rfl, hjx⟩)
     ·gi_wp2
      go_wp2
      go_ret
      exact ⟨true, rfl, fun _ => ⟨_, by simp, hj3, HK.out.trans hk3⟩, fun h => by cases h⟩
     ·gi_wp2
      go_wp2
      go_ret
      exact ⟨false, rfl, (fun h => by cases h), fun _ => ⟨_, hjx⟩⟩
 | succ n ih =>
   intro b vb pre W hlen hbr hown hbel hn1 hj hpost
   have TF := Lib.hid (fits_any vm vo vb ms os b W (hm.carry hbel) (ho.carry hbel) hown.ints hml hol (by omega) hbr hor hmr)
   have HJ := Lib.hid hJ
   have IH := Lib.hid ih
   have HMW := Lib.hid hm
   have HOW := Lib.hid ho
   have HOWN := Lib.hid hown
   obtain ⟨mm, hmk⟩ : ∃ m, ms[b.length]? = some m := ⟨_, List.getElem?_eq_getElem (by omega)⟩
   have hwn : w0.heap.size ≤ W.heap.size := hbel.size
   cases hf : fitB ms os b with
   | false =>
     rw [hf] at TF
     have HF := Lib.hid (extL_no (n := n + 1) hf)
     obtain ⟨ma, mc, rfl, -⟩ := hm.slice
     obtain ⟨ba, bc, rfl⟩ := own_slice hown
     clear hf hY hJ hm ho hown hbr hor hmr hpost hlen ih hmk
     go_enter Tryz.func144, Tryz.ntmps144
     go_wp2_with fail
     refine TF.out.mono ?_
     rintro e w1 ⟨rfl, hb1⟩
     clear TF
     go_wp2
     go_ret
     exact ⟨true, rfl, fun _ => ⟨pre, by rw [HF.out]; simp, HJ.out _ _ _ hj (grownD hb1), KPl.below hb1 (by omega)⟩, fun h => by cases h⟩
   | true =>
     rw [hf] at TF
     have hL := extL_yes (n := n) hf
     rw [hL] at hpost ⊢
     have HP := Lib.hid hpost
     have HBR := Lib.hid hbr
     have HLEN := Lib.hid hlen
     have HMK := Lib.hid hmk
     obtain ⟨i0, hi, hz0, hz1, hz2⟩ := info_parts Tryz.infZint
     obtain ⟨ma, mc, rfl, -⟩ := hm.slice
     obtain ⟨oa, oc, rfl, -⟩ := ho.slice
     obtain ⟨ba, bc, rfl⟩ := own_slice hown
     obtain ⟨NB, hNB⟩ : ∃ N, N = b.length := ⟨_, rfl⟩
     obtain ⟨NM, hNM⟩ : ∃ N, N = ms.length := ⟨_, rfl⟩
     obtain ⟨NO, hNO⟩ : ∃ N, N = os.length := ⟨_, rfl⟩
     have hlt : NB < NM := by omega
     have HNB := Lib.hid hNB
     have HNM := Lib.hid hNM
     have HNO := Lib.hid hNO
     rw [← hNB] at TF HOWN HMK ⊢
     rw [← hNM] at TF HMW hml IH HLEN ⊢
     rw [← hNO] at TF HOW hol IH HBR HP ⊢
     have b0 : ((NB : Int) == (NM : Int)) = false := by rw [beq_eq_false_iff_ne]; omega
     have b1 : (NB : Int) < (NM : Int) := by omega
     clear hf hY hJ hm ho hown hbr hor hmr hpost hlen ih hmk hL hNB hNM hNO hlt
     go_enter Tryz.func144, Tryz.ntmps144
     go_wp2_with fail
     refine TF.out.mono ?_
     rintro e w1 ⟨rfl, hb1⟩
     clear TF
     have hj1 := HJ.out _ _ _ hj (grownD hb1)
     have hk1 := KPl.below (n₁ := n₁) hb1 hwn
     clear hj hb1
     go_wp2_with fail
     go_loopw [26] (fun i wr => ∃ (k : Nat) (xs : List (Value × List Int)), k ≤ NO ∧ i = .int .i64 k ∧ xs.map Prod.snd = pre.map Prod.snd ++ extK ms os n b k ∧ J xs wr ∧ KPl w0.heap.size n₁ W wr) (fun i _ => NO - (intOf i).toNat)
     case atStart => exact ⟨0, pre, by omega, rfl, by simp [extK], hj1, hk1⟩
     case round =>
      clear hj1 hk1
      obtain ⟨k, xs, hk, rfl, hxs, hj, hkp⟩ := hrel
      have hB := hbel.trans hkp.1
      by_cases hlt : k < NO
      ·have hdk : (k : Int) < (NO : Int) := by omega
       obtain ⟨x, hx⟩ : ∃ x, os[k]? = some x := ⟨_, List.getElem?_eq_getElem (by rw [← HNO.out]; exact hlt)⟩
       have hsucc := extK_succ ms os n b k
       rw [hx, Option.getD_some, ← HNB.out, HMK.out, Option.getD_some] at hsucc
       obtain ⟨ob, oo, ocap, hoe, hocs⟩ := (HOW.out.carry hB).head (by rw [← HNO.out]; omega)
       simp only [Value.slice.injEq] at hoe
       obtain ⟨rfl, -, rfl⟩ := hoe
       obtain ⟨mb, mo, mcap, hme, hmcs⟩ := (HMW.out.carry hB).head (by rw [← HNM.out]; omega)
       simp only [Value.slice.injEq] at hme
       obtain ⟨rfl, -, rfl⟩ := hme
       obtain ⟨o0, o1, o2⟩ := rw3 (hocs k x hx) (show iV x = [.int .i64 x.1, .int .i64 x.2.1, .int .i64 x.2.2] from rfl)
       obtain ⟨m0, m1, m2, m3⟩ := rw4 (hmcs NB mm HMK.out) (show mV mm = [.string mm.1, .int .i64 mm.2.1, .int .i64 mm.2.2.1, .int .i64 mm.2.2.2] from rfl)
       obtain ⟨x0, x1, x2⟩ := x
       obtain ⟨s, y1, y2, y3⟩ := mm
       dsimp only at o0 o1 o2 m0 m1 m2 m3 hsucc
       have TP := Lib.hid (fun W => permits_any x0 x1 x2 s y1 y2 y3 W)
       have hown := HOWN.out.kpl hkp
       have hwr : W.heap.size ≤ wr.heap.size := hkp.1.size
       have HX := Lib.hid hx
       have HXS := Lib.hid hxs
       clear hocs hmcs hx hxs
       go_upto_region 8 with fail
       obtain ⟨V1, hV1⟩ : ∃ v, v = World.alloc wr (Obj.cells #[.int .i64 x0, .int .i64 x1, .int .i64 x2] 165) := ⟨_, rfl⟩
       have kV1 : Below wr.heap.size wr V1 := by rw [hV1]; exact below_new _ _
       have iV1 : Blk V1 (wr.heap.size) 165 [.int .i64 x0, .int .i64 x1, .int .i64 x2] := by rw [hV1]; exact Blk.new _ _ _
       have sV1 : V1.heap.size = wr.heap.size + 1 := by rw [hV1]; simp
       rw [← hV1]
       clear hV1
       have m0 := cellb m0 kV1
       have m1 := cellb m1 kV1
       have m2 := cellb m2 kV1
       have m3 := cellb m3 kV1
       have hown := hown.carry kV1
       have hj := HJ.out _ _ _ hj (grownD kV1)
       have hkp := hkp.trans (KPl.below kV1 (by omega))
       have hV1 : W.heap.size ≤ V1.heap.size := by omega
       clear o0 o1 o2 sV1 kV1 hB
       cases hA : perB (x0, x1, x2) (s, y1, y2, y3) with
       | false =>
         rw [hA] at TP
         rw [if_neg (by rw [hA]; decide), List.append_nil] at hsucc
         have HS := Lib.hid hsucc
         have d0 := iV1.cell (j := 0) (v := .int .i64 x0) rfl
         have d1 := iV1.cell (j := 1) (v := .int .i64 x1) rfl
         have d2 := iV1.cell (j := 2) (v := .int .i64 x2) rfl
         clear hA hsucc iV1 hown
         refine wp_region_E 99 (by kernel_rfl) ?_
         obtain ⟨wz, hwz⟩ : ∃ v, v = V1.drew := ⟨_, rfl⟩
         rw [← hwz]
         have hlz : Below V1.heap.size V1 wz := by rw [hwz]; exact (Below.refl _ _).drew
         have hbz := bthen (Below.refl _ _) hlz
         have d0 := cellb d0 hlz
         have d1 := cellb d1 hlz
         have d2 := cellb d2 hlz
         have m0 := cellb m0 hlz
         have m1 := cellb m1 hlz
         have m2 := cellb m2 hlz
         have m3 := cellb m3 hlz
         clear hwz hlz
         refine zV 0 ⟨some 31, .load 165 (.tmp 10), 165, "plan.go:125", #[], none⟩ rfl ?_ (hv := fun w hE => by have d0 := cellb d0 hE; have d1 := cellb d1 hE; have d2 := cellb d2 hE; have m0 := cellb m0 hE; have m1 := cellb m1 hE; have m2 := cellb m2 hE; have m3 := cellb m3 hE; (try dsimp only); go_simp; try rfl)
         simp only [Act.put, zS]
         refine zV 1 ⟨some 32, .move (.tmp 0), 87, "plan.go:125", #[], none⟩ rfl ?_
         simp only [Act.put, zS]
         refine zV 2 ⟨some 33, .move (.tmp 2), 63, "plan.go:125", #[], none⟩ rfl ?_
         simp only [Act.put, zS]
         refine zV 3 ⟨some 34, .call ⟨.builtin .len, #[.tmp 33], #[63]⟩, 3, "plan.go:125", #[⟨2, .data⟩], none⟩ rfl ?_ (hv := fun w hE => by have d0 := cellb d0 hE; have d1 := cellb d1 hE; have d2 := cellb d2 hE; have m0 := cellb m0 hE; have m1 := cellb m1 hE; have m2 := cellb m2 hE; have m3 := cellb m3 hE; (try dsimp only); go_simp; try rfl)
         simp only [Act.put, zS]
         refine zV 4 ⟨some 35, .indexAddr 87 (.tmp 32) (.tmp 34), 0, "plan.go:125", #[⟨1, .data⟩, ⟨3, .data⟩], none⟩ rfl ?_
         simp only [Act.put, zS]
         refine zV 5 ⟨some 36, .load 163 (.tmp 35), 163, "plan.go:125", #[⟨4, .data⟩], none⟩ rfl ?_ (hv := fun w hE => by have d0 := cellb d0 hE; have d1 := cellb d1 hE; have d2 := cellb d2 hE; have m0 := cellb m0 hE; have m1 := cellb m1 hE; have m2 := cellb m2 hE; have m3 := cellb m3 hE; (try dsimp only); go_simp; try rfl)
         simp only [Act.put, zS]
         refine zB 6 ⟨some 37, .call ⟨.value (.func 92), #[.tmp 31, .tmp 36], #[165, 163]⟩, 4, "plan.go:125", #[⟨0, .data⟩, ⟨5, .data⟩], none⟩ (fun w hE => TP.out w) rfl ?_
         simp only [Act.put, zS]
         refine zV 7 ⟨some 38, .move (.tmp 37), 4, "plan.go:125", #[⟨6, .data⟩, ⟨6, .chain⟩], none⟩ rfl ?_
         simp only [Act.put, zS]
         refine zK 8 ⟨some 39, .move (.tmp 0), 87, "plan.go:125", #[⟨7, .guard⟩], some (7, true)⟩ rfl ?_
         simp only [Act.put, zS]
         refine zK 9 ⟨some 40, .move (.tmp 1), 89, "plan.go:125", #[⟨7, .guard⟩], some (7, true)⟩ rfl ?_
         simp only [Act.put, zS]
         refine zK 10 ⟨some 41, .move (.tmp 2), 63, "plan.go:125", #[⟨7, .guard⟩], some (7, true)⟩ rfl ?_
         simp only [Act.put, zS]
         refine zK 11 ⟨some 42, .call ⟨.value (.func 186), #[.tmp 41], #[63]⟩, 63, "plan.go:125", #[⟨10, .data⟩, ⟨7, .chain⟩, ⟨7, .guard⟩], some (7, true)⟩ rfl ?_
         simp only [Act.put, zS]
         refine zK 12 ⟨some 43, .move (.tmp 9), 3, "plan.go:125", #[⟨7, .guard⟩], some (7, true)⟩ rfl ?_
         simp only [Act.put, zS]
         refine zK 13 ⟨some 44, .buildSlice 63 1 #[(0, .tmp 43)], 63, "plan.go:125", #[⟨12, .data⟩, ⟨7, .guard⟩], some (7, true)⟩ rfl ?_
         simp only [Act.put, zS]
         refine zK 14 ⟨some 45, .call ⟨.builtin .append, #[.tmp 42, .tmp 44], #[63, 63]⟩, 63, "plan.go:125", #[⟨11, .data⟩, ⟨13, .data⟩, ⟨11, .chain⟩, ⟨7, .guard⟩], some (7, true)⟩ rfl ?_
         simp only [Act.put, zS]
         refine zK 15 ⟨some 46, .move (.tmp 3), 222, "plan.go:125", #[⟨7, .guard⟩], some (7, true)⟩ rfl ?_
         simp only [Act.put, zS]
         refine zK 16 ⟨some 47, .call ⟨.value (.func 144), #[.tmp 39, .tmp 40, .tmp 45, .tmp 46], #[87, 89, 63, 222]⟩, 4, "plan.go:125", #[⟨8, .data⟩, ⟨9, .data⟩, ⟨14, .data⟩, ⟨15, .data⟩, ⟨14, .chain⟩, ⟨7, .guard⟩], some (7, true)⟩ rfl ?_
         simp only [Act.put, zS]
         refine zK 17 ⟨some 48, .unOp .not 4 (.tmp 47), 4, "plan.go:125", #[⟨16, .data⟩, ⟨7, .guard⟩], some (7, true)⟩ rfl ?_
         simp only [Act.put, zS]
         refine zV 18 ⟨some 49, .pick (.tmp 38) (.tmp 48) (.const (.bool false)), 4, "plan.go:125", #[⟨7, .data⟩, ⟨17, .data⟩], none⟩ rfl ?_
         simp only [Act.put, zS]
         refine wpAnyE_done (by kernel_rfl) (fun wy1 hE => ?_) _
         have hbz1 := bthen hbz hE
         have d0 := cellb d0 hE
         have d1 := cellb d1 hE
         have d2 := cellb d2 hE
         have m0 := cellb m0 hE
         have m1 := cellb m1 hE
         have m2 := cellb m2 hE
         have m3 := cellb m3 hE
         clear hE
         have hBz := hbz1
         obtain ⟨W9, hW9⟩ : ∃ v, v = wy1 := ⟨_, rfl⟩
         rw [← hW9] at hBz ⊢
         clear hW9 d0 d1 d2 m0 m1 m2 m3
         have hj9 := HJ.out _ _ _ hj (grownD hBz)
         have hk9 := hkp.trans (KPl.below hBz (by omega))
         go_wp2
         go_roundw
         case rel => exact ⟨k + 1, xs, by omega, by go_num, by rw [HS.out]; exact HXS.out, hj9, hk9⟩
         case measure => simp [intOf]; omega
       | true =>
         rw [hA] at TP
         rw [if_pos hA] at hsucc
         have HS := Lib.hid hsucc
         have HVB := Lib.hid (hbel.trans hkp.1)
         clear hA hsucc
         have hm4 : At V1 mb (mo + NB * 4) [.string s, .int .i64 y1, .int .i64 y2, .int .i64 y3] := At.four m0 m1 m2 m3
         clear m0 m1 m2 m3
         have hIN : IntKind.i64.wrap (k : Int) = (k : Int) := IntWalk.i64_in _ (by omega)
         have hLL : ∃ post, LL = xs.map Prod.snd ++ (extL ms os n (b ++ [(k : Int)]) ++ post) := by
          obtain ⟨post, h1⟩ := HP.out
          obtain ⟨post', h2⟩ := extK_split ms os n b (k + 1) (by rw [← HNO.out]; omega)
          rw [← HNO.out, HS.out] at h2
          exact ⟨post' ++ post, by rw [h1, h2, HXS.out]; simp⟩
         have HLL := Lib.hid hLL
         have hlen9 : (b ++ [(k : Int)]).length + n = NM := by have := HLEN.out; rw [List.length_append, List.length_singleton]; omega
         have HLEN9 := Lib.hid hlen9
         have HBR9 := Lib.hid (show ∀ j ∈ b ++ [(k : Int)], 0 ≤ j ∧ j < (NO : Int) from fun j hj => by
          rcases List.mem_append.1 hj with h | h
          ·exact HBR.out j h
          ·rw [List.mem_singleton] at h; subst h; omega)
         clear hLL hlen9
         refine wp_region_held_drew (S := (fun _ => True)) (by kernel_rfl) trivial (fun hHeld0 => ?_)
         obtain ⟨wzd, hwz⟩ : ∃ v, v = V1.drew := ⟨_, rfl⟩
         rw [← hwz]
         have hbzd : Below V1.heap.size V1 wzd := by rw [hwz]; exact (Below.refl _ _).drew
         have hlzd : Below V1.heap.size V1 wzd := by rw [hwz]; exact (Below.refl _ _).drew
         have iV1 := iV1.carry hlzd
         have hm4 := hm4.carry hlzd
         have hown := hown.carry hlzd
         clear hwz hlzd
         refine zH 1 ⟨some 32, .move (.tmp 0), 87, "plan.go:125", #[], none⟩ rfl ?_
         simp only [Act.put, zS]
         refine zH 2 ⟨some 33, .move (.tmp 2), 63, "plan.go:125", #[], none⟩ rfl ?_
         simp only [Act.put, zS]
         refine zH 3 ⟨some 34, .call ⟨.builtin .len, #[.tmp 33], #[63]⟩, 3, "plan.go:125", #[⟨2, .data⟩], none⟩ rfl ?_
         simp only [Act.put, zS]
         refine zH 4 ⟨some 35, .indexAddr 87 (.tmp 32) (.tmp 34), 0, "plan.go:125", #[⟨1, .data⟩, ⟨3, .data⟩], none⟩ rfl ?_
         simp only [Act.put, zS]
         refine wpAnyH_ready (rs := [0, 5]) (by kernel_rfl) (by simp) ?_
         refine (AllReadyH.cons (o := ⟨some 31, .load 165 (.tmp 10), 165, "plan.go:125", #[], none⟩) rfl (fun K hK => ?_) (AllReadyH.cons (o := ⟨some 36, .load 163 (.tmp 35), 163, "plan.go:125", #[⟨4, .data⟩], none⟩) rfl (fun K hK => ?_) AllReadyH.nil))
         ·have d0 := iV1.cell (j := 0) (v := .int .i64 x0) rfl
          have d1 := iV1.cell (j := 1) (v := .int .i64 x1) rfl
          have d2 := iV1.cell (j := 2) (v := .int .i64 x2) rfl
          go_simp
          clear d0 d1 d2
          refine hK.out _ _ trivial (fun hHeld1 => ?_)
          clear hK K hHeld0
          try simp only [Act.put, zS]
          refine wpAnyH_ready (rs := [5]) (by kernel_rfl) (by simp) ?_
          refine (AllReadyH.cons (o := ⟨some 36, .load 163 (.tmp 35), 163, "plan.go:125", #[⟨4, .data⟩], none⟩) rfl (fun K hK => ?_) AllReadyH.nil)
          have m0 : wzd.cell? ⟨mb, mo + NB * 4, none⟩ = some (.string s) := hm4 0 _ rfl
          have m1 := hm4 1 _ rfl
          have m2 := hm4 2 _ rfl
          have m3 := hm4 3 _ rfl
          go_simp
          clear m0 m1 m2 m3
          refine hK.out _ _ trivial (fun hHeld2 => ?_)
          clear hK K hHeld1
          try simp only [Act.put, zS]
          refine wpAnyH_ready (rs := [6]) (by kernel_rfl) (by simp) ?_
          refine (AllReadyH.cons (o := ⟨some 37, .call ⟨.value (.func 92), #[.tmp 31, .tmp 36], #[165, 163]⟩, 4, "plan.go:125", #[⟨0, .data⟩, ⟨5, .data⟩], none⟩) rfl (fun K hK => ?_) AllReadyH.nil)
          go_simp
          refine (TP.out _).mono ?_
          rintro e wz6 ⟨rfl, hl⟩
          (try go_wp2_with fail)
          have hbz6 := bthen hbzd hl
          have iV1 := iV1.carry hl
          have hm4 := hm4.carry hl
          have hown := hown.carry hl
          clear hl
          refine hK.out _ _ trivial (fun hHeld3 => ?_)
          clear hK K hHeld2
          try simp only [Act.put, zS]
          refine zH 7 ⟨some 38, .move (.tmp 37), 4, "plan.go:125", #[⟨6, .data⟩, ⟨6, .chain⟩], none⟩ rfl ?_
          simp only [Act.put, zS]
          refine zH 8 ⟨some 39, .move (.tmp 0), 87, "plan.go:125", #[⟨7, .guard⟩], some (7, true)⟩ rfl ?_
          simp only [Act.put, zS]
          refine zH 9 ⟨some 40, .move (.tmp 1), 89, "plan.go:125", #[⟨7, .guard⟩], some (7, true)⟩ rfl ?_
          simp only [Act.put, zS]
          refine zH 10 ⟨some 41, .move (.tmp 2), 63, "plan.go:125", #[⟨7, .guard⟩], some (7, true)⟩ rfl ?_
          simp only [Act.put, zS]
          refine zH 12 ⟨some 43, .move (.tmp 9), 3, "plan.go:125", #[⟨7, .guard⟩], some (7, true)⟩ rfl ?_
          simp only [Act.put, zS]
          refine zH 15 ⟨some 46, .move (.tmp 3), 222, "plan.go:125", #[⟨7, .guard⟩], some (7, true)⟩ rfl ?_
          simp only [Act.put, zS]
          refine wpAnyH_ready (rs := [11, 13]) (by kernel_rfl) (by simp) ?_
          refine (AllReadyH.cons (o := ⟨some 42, .call ⟨.value (.func 186), #[.tmp 41], #[63]⟩, 63, "plan.go:125", #[⟨10, .data⟩, ⟨7, .chain⟩, ⟨7, .guard⟩], some (7, true)⟩) rfl (fun K hK => ?_) (AllReadyH.cons (o := ⟨some 44, .buildSlice 63 1 #[(0, .tmp 43)], 63, "plan.go:125", #[⟨12, .data⟩, ⟨7, .guard⟩], some (7, true)⟩) rfl (fun K hK => ?_) AllReadyH.nil))
          ·go_simp
           refine (CloneN_any _ b _ hown.ints (by rw [← HNB.out]; omega)).mono ?_
           rintro e wz11 ⟨⟨u, rfl, hu⟩, hl⟩
           have hu := OwnI.base hu (show V1.heap.size ≤ _ from (hbz6).size)
           (try go_wp2_with fail)
           have hbz11 := bthen hbz6 hl
           have iV1 := iV1.carry hl
           have hm4 := hm4.carry hl
           have hown := hown.carry hl
           clear hl
           refine hK.out _ _ trivial (fun hHeld4 => ?_)
           clear hK K hHeld3
           try simp only [Act.put, zS]
           refine wpAnyH_ready (rs := [13]) (by kernel_rfl) (by simp) ?_
           refine (AllReadyH.cons (o := ⟨some 44, .buildSlice 63 1 #[(0, .tmp 43)], 63, "plan.go:125", #[⟨12, .data⟩, ⟨7, .guard⟩], some (7, true)⟩) rfl (fun K hK => ?_) AllReadyH.nil)
           go_simp
           obtain ⟨wz13, hwz⟩ : ∃ v, v = wz11.alloc (Obj.cells #[.int .i64 (k : Int)] 3) := ⟨_, rfl⟩
           rw [← hwz]
           have hl : Below wz11.heap.size wz11 wz13 := by rw [hwz]; exact below_new _ _
           have hbz13 := bthen hbz11 hl
           have iN : Blk wz13 wz11.heap.size 3 [.int .i64 (k : Int)] := by rw [hwz]; exact Blk.new _ _ _
           generalize wz11.heap.size = G at iN ⊢
           clear hwz
           have iV1 := iV1.carry hl
           have hm4 := hm4.carry hl
           have hown := hown.carry hl
           have hu := hu.carry hl
           clear hl
           refine hK.out _ _ trivial (fun hHeld5 => ?_)
           clear hK K hHeld4
           try simp only [Act.put, zS]
           refine wpAnyH_ready (rs := [14]) (by kernel_rfl) (by simp) ?_
           refine (AllReadyH.cons (o := ⟨some 45, .call ⟨.builtin .append, #[.tmp 42, .tmp 44], #[63, 63]⟩, 63, "plan.go:125", #[⟨11, .data⟩, ⟨13, .data⟩, ⟨11, .chain⟩, ⟨7, .guard⟩], some (7, true)⟩) rfl (fun K hK => ?_) AllReadyH.nil)
           have hsz := (hbz13).size
           refine wp_append_own wz13 (.tmp 42) (.tmp 44) 63 rfl V1.heap.size 3 i0 (.int .i64 0) 1 8 Tryz.undZint hi hz0 hz1 hz2 rfl (by decide) u b.length _ rfl hu ⟨G, 0, none⟩ 1 1 [.int .i64 (k : Int)] rfl rfl (fun j u hj => by rw [addr_add, Nat.zero_add]; exact iN.cell hj) (by simp [Value.oneCell']) (by unfold maxLen; have := HNB.out; omega) (by have := HNB.out; omega) hsz ?_
           intro v9 wz14 hown9 hgrow9 _
           have hbz14 := (hbz13).grown hgrow9 hsz (fun k' hk' => (World.ownsRow.lt hu k' hk').1)
           refine hK.out _ _ trivial (fun hHeld6 => ?_)
           clear hK K hHeld5
           try simp only [Act.put, zS]
           refine wpAnyH_ready (rs := [16]) (by kernel_rfl) (by simp) ?_
           refine (AllReadyH.cons (o := ⟨some 47, .call ⟨.value (.func 144), #[.tmp 39, .tmp 40, .tmp 45, .tmp 46], #[87, 89, 63, 222]⟩, 4, "plan.go:125", #[⟨8, .data⟩, ⟨9, .data⟩, ⟨14, .data⟩, ⟨15, .data⟩, ⟨14, .chain⟩, ⟨7, .guard⟩], some (7, true)⟩) rfl (fun K hK => ?_) AllReadyH.nil)
           have hb14 := (hbz14)
           have hown9' : OwnI 3 n₁ wz14 v9 (b ++ [(k : Int)]) := OwnI.base (base := V1.heap.size) (by unfold OwnI; rw [List.length_append, List.map_append]; exact hown9) (by omega)
           have hih := IH.out (b ++ [(k : Int)]) v9 xs wz14 HLEN9.out HBR9.out hown9' (HVB.out.trans (hb14.mono HVB.out.size)) (by have := hb14.size; omega) (HJ.out _ _ _ hj (grownD hb14)) HLL.out
           have HK9 := Lib.hid (hkp.trans (KPl.below (n₁ := n₁) hb14 (by omega)))
           go_simp
           refine hih.mono ?_
           clear hih hown9 hown9' hb14
           rintro e wz16 ⟨r, rfl, hT, hF⟩
           (try go_wp2_with fail)
           refine hK.out _ _ trivial (fun hHeld7 => ?_)
           clear hK K hHeld6
           try simp only [Act.put, zS]
           refine zH 17 ⟨some 48, .unOp .not 4 (.tmp 47), 4, "plan.go:125", #[⟨16, .data⟩, ⟨7, .guard⟩], some (7, true)⟩ rfl ?_
           simp only [Act.put, zS]
           refine zH 18 ⟨some 49, .pick (.tmp 38) (.tmp 48) (.const (.bool false)), 4, "plan.go:125", #[⟨7, .data⟩, ⟨17, .data⟩], none⟩ rfl ?_
           simp only [Act.put, zS]
           refine wpAnyH_done (by kernel_rfl) ?_ _
           clear hHeld7
           cases r with
           | true =>
             obtain ⟨ys, h1, h2, h3⟩ := hT rfl
             have H1 := Lib.hid h1
             clear h1 hT hF
             go_wp2
             go_roundw
             case rel => exact ⟨k + 1, ys, by omega, by go_num, by rw [H1.out, HXS.out, HS.out]; simp, h2, HK9.out.trans h3⟩
             case measure => simp [intOf]; omega
           | false =>
             obtain ⟨ys, h1⟩ := hF rfl
             clear hT hF
             go_wp2
             go_ret
             exact ⟨false, rfl, (fun h => by cases h), fun _ => ⟨_, h1⟩⟩
          ·go_simp
           obtain ⟨wz13, hwz⟩ : ∃ v, v = wz6.alloc (Obj.cells #[.int .i64 (k : Int)] 3) := ⟨_, rfl⟩
           rw [← hwz]
           have hl : Below wz6.heap.size wz6 wz13 := by rw [hwz]; exact below_new _ _
           have hbz13 := bthen hbz6 hl
           have iN : Blk wz13 wz6.heap.size 3 [.int .i64 (k : Int)] := by rw [hwz]; exact Blk.new _ _ _
           generalize wz6.heap.size = G at iN ⊢
           clear hwz
           have iV1 := iV1.carry hl
           have hm4 := hm4.carry hl
           have hown := hown.carry hl
           clear hl
           refine hK.out _ _ trivial (fun hHeld4 => ?_)
           clear hK K hHeld3
           try simp only [Act.put, zS]
           refine wpAnyH_ready (rs := [11]) (by kernel_rfl) (by simp) ?_
           refine (AllReadyH.cons (o := ⟨some 42, .call ⟨.value (.func 186), #[.tmp 41], #[63]⟩, 63, "plan.go:125", #[⟨10, .data⟩, ⟨7, .chain⟩, ⟨7, .guard⟩], some (7, true)⟩) rfl (fun K hK => ?_) AllReadyH.nil)
           go_simp
           refine (CloneN_any _ b _ hown.ints (by rw [← HNB.out]; omega)).mono ?_
           rintro e wz11 ⟨⟨u, rfl, hu⟩, hl⟩
           have hu := OwnI.base hu (show V1.heap.size ≤ _ from (hbz13).size)
           (try go_wp2_with fail)
           have hbz11 := bthen hbz13 hl
           have iV1 := iV1.carry hl
           have hm4 := hm4.carry hl
           have hown := hown.carry hl
           have iN := iN.carry hl
           clear hl
           refine hK.out _ _ trivial (fun hHeld5 => ?_)
           clear hK K hHeld4
           try simp only [Act.put, zS]
           refine wpAnyH_ready (rs := [14]) (by kernel_rfl) (by simp) ?_
           refine (AllReadyH.cons (o := ⟨some 45, .call ⟨.builtin .append, #[.tmp 42, .tmp 44], #[63, 63]⟩, 63, "plan.go:125", #[⟨11, .data⟩, ⟨13, .data⟩, ⟨11, .chain⟩, ⟨7, .guard⟩], some (7, true)⟩) rfl (fun K hK => ?_) AllReadyH.nil)
           have hsz := (hbz11).size
           refine wp_append_own wz11 (.tmp 42) (.tmp 44) 63 rfl V1.heap.size 3 i0 (.int .i64 0) 1 8 Tryz.undZint hi hz0 hz1 hz2 rfl (by decide) u b.length _ rfl hu ⟨G, 0, none⟩ 1 1 [.int .i64 (k : Int)] rfl rfl (fun j u hj => by rw [addr_add, Nat.zero_add]; exact iN.cell hj) (by simp [Value.oneCell']) (by unfold maxLen; have := HNB.out; omega) (by have := HNB.out; omega) hsz ?_
           intro v9 wz14 hown9 hgrow9 _
           have hbz14 := (hbz11).grown hgrow9 hsz (fun k' hk' => (World.ownsRow.lt hu k' hk').1)
           refine hK.out _ _ trivial (fun hHeld6 => ?_)
           clear hK K hHeld5
           try simp only [Act.put, zS]
           refine wpAnyH_ready (rs := [16]) (by kernel_rfl) (by simp) ?_
           refine (AllReadyH.cons (o := ⟨some 47, .call ⟨.value (.func 144), #[.tmp 39, .tmp 40, .tmp 45, .tmp 46], #[87, 89, 63, 222]⟩, 4, "plan.go:125", #[⟨8, .data⟩, ⟨9, .data⟩, ⟨14, .data⟩, ⟨15, .data⟩, ⟨14, .chain⟩, ⟨7, .guard⟩], some (7, true)⟩) rfl (fun K hK => ?_) AllReadyH.nil)
           have hb14 := (hbz14)
           have hown9' : OwnI 3 n₁ wz14 v9 (b ++ [(k : Int)]) := OwnI.base (base := V1.heap.size) (by unfold OwnI; rw [List.length_append, List.map_append]; exact hown9) (by omega)
           have hih := IH.out (b ++ [(k : Int)]) v9 xs wz14 HLEN9.out HBR9.out hown9' (HVB.out.trans (hb14.mono HVB.out.size)) (by have := hb14.size; omega) (HJ.out _ _ _ hj (grownD hb14)) HLL.out
           have HK9 := Lib.hid (hkp.trans (KPl.below (n₁ := n₁) hb14 (by omega)))
           go_simp
           refine hih.mono ?_
           clear hih hown9 hown9' hb14
           rintro e wz16 ⟨r, rfl, hT, hF⟩
           (try go_wp2_with fail)
           refine hK.out _ _ trivial (fun hHeld7 => ?_)
           clear hK K hHeld6
           try simp only [Act.put, zS]
           refine zH 17 ⟨some 48, .unOp .not 4 (.tmp 47), 4, "plan.go:125", #[⟨16, .data⟩, ⟨7, .guard⟩], some (7, true)⟩ rfl ?_
           simp only [Act.put, zS]
           refine zH 18 ⟨some 49, .pick (.tmp 38) (.tmp 48) (.const (.bool false)), 4, "plan.go:125", #[⟨7, .data⟩, ⟨17, .data⟩], none⟩ rfl ?_
           simp only [Act.put, zS]
           refine wpAnyH_done (by kernel_rfl) ?_ _
           clear hHeld7
           cases r with
           | true =>
             obtain ⟨ys, h1, h2, h3⟩ := hT rfl
             have H1 := Lib.hid h1
             clear h1 hT hF
             go_wp2
             go_roundw
             case rel => exact ⟨k + 1, ys, by omega, by go_num, by rw [H1.out, HXS.out, HS.out]; simp, h2, HK9.out.trans h3⟩
             case measure => simp [intOf]; omega
           | false =>
             obtain ⟨ys, h1⟩ := hF rfl
             clear hT hF
             go_wp2
             go_ret
             exact ⟨false, rfl, (fun h => by cases h), fun _ => ⟨_, h1⟩⟩
         ·have m0 : wzd.cell? ⟨mb, mo + NB * 4, none⟩ = some (.string s) := hm4 0 _ rfl
          have m1 := hm4 1 _ rfl
          have m2 := hm4 2 _ rfl
          have m3 := hm4 3 _ rfl
          go_simp
          clear m0 m1 m2 m3
          refine hK.out _ _ trivial (fun hHeld1 => ?_)
          clear hK K hHeld0
          try simp only [Act.put, zS]
          refine wpAnyH_ready (rs := [0]) (by kernel_rfl) (by simp) ?_
          refine (AllReadyH.cons (o := ⟨some 31, .load 165 (.tmp 10), 165, "plan.go:125", #[], none⟩) rfl (fun K hK => ?_) AllReadyH.nil)
          have d0 := iV1.cell (j := 0) (v := .int .i64 x0) rfl
          have d1 := iV1.cell (j := 1) (v := .int .i64 x1) rfl
          have d2 := iV1.cell (j := 2) (v := .int .i64 x2) rfl
          go_simp
          clear d0 d1 d2
          refine hK.out _ _ trivial (fun hHeld2 => ?_)
          clear hK K hHeld1
          try simp only [Act.put, zS]
          refine wpAnyH_ready (rs := [6]) (by kernel_rfl) (by simp) ?_
          refine (AllReadyH.cons (o := ⟨some 37, .call ⟨.value (.func 92), #[.tmp 31, .tmp 36], #[165, 163]⟩, 4, "plan.go:125", #[⟨0, .data⟩, ⟨5, .data⟩], none⟩) rfl (fun K hK => ?_) AllReadyH.nil)
          go_simp
          refine (TP.out _).mono ?_
          rintro e wz6 ⟨rfl, hl⟩
          (try go_wp2_with fail)
          have hbz6 := bthen hbzd hl
          have iV1 := iV1.carry hl
          have hm4 := hm4.carry hl
          have hown := hown.carry hl
          clear hl
          refine hK.out _ _ trivial (fun hHeld3 => ?_)
          clear hK K hHeld2
          try simp only [Act.put, zS]
          refine zH 7 ⟨some 38, .move (.tmp 37), 4, "plan.go:125", #[⟨6, .data⟩, ⟨6, .chain⟩], none⟩ rfl ?_
          simp only [Act.put, zS]
          refine zH 8 ⟨some 39, .move (.tmp 0), 87, "plan.go:125", #[⟨7, .guard⟩], some (7, true)⟩ rfl ?_
          simp only [Act.put, zS]
          refine zH 9 ⟨some 40, .move (.tmp 1), 89, "plan.go:125", #[⟨7, .guard⟩], some (7, true)⟩ rfl ?_
          simp only [Act.put, zS]
          refine zH 10 ⟨some 41, .move (.tmp 2), 63, "plan.go:125", #[⟨7, .guard⟩], some (7, true)⟩ rfl ?_
          simp only [Act.put, zS]
          refine zH 12 ⟨some 43, .move (.tmp 9), 3, "plan.go:125", #[⟨7, .guard⟩], some (7, true)⟩ rfl ?_
          simp only [Act.put, zS]
          refine zH 15 ⟨some 46, .move (.tmp 3), 222, "plan.go:125", #[⟨7, .guard⟩], some (7, true)⟩ rfl ?_
          simp only [Act.put, zS]
          refine wpAnyH_ready (rs := [11, 13]) (by kernel_rfl) (by simp) ?_
          refine (AllReadyH.cons (o := ⟨some 42, .call ⟨.value (.func 186), #[.tmp 41], #[63]⟩, 63, "plan.go:125", #[⟨10, .data⟩, ⟨7, .chain⟩, ⟨7, .guard⟩], some (7, true)⟩) rfl (fun K hK => ?_) (AllReadyH.cons (o := ⟨some 44, .buildSlice 63 1 #[(0, .tmp 43)], 63, "plan.go:125", #[⟨12, .data⟩, ⟨7, .guard⟩], some (7, true)⟩) rfl (fun K hK => ?_) AllReadyH.nil))
          ·go_simp
           refine (CloneN_any _ b _ hown.ints (by rw [← HNB.out]; omega)).mono ?_
           rintro e wz11 ⟨⟨u, rfl, hu⟩, hl⟩
           have hu := OwnI.base hu (show V1.heap.size ≤ _ from (hbz6).size)
           (try go_wp2_with fail)
           have hbz11 := bthen hbz6 hl
           have iV1 := iV1.carry hl
           have hm4 := hm4.carry hl
           have hown := hown.carry hl
           clear hl
           refine hK.out _ _ trivial (fun hHeld4 => ?_)
           clear hK K hHeld3
           try simp only [Act.put, zS]
           refine wpAnyH_ready (rs := [13]) (by kernel_rfl) (by simp) ?_
           refine (AllReadyH.cons (o := ⟨some 44, .buildSlice 63 1 #[(0, .tmp 43)], 63, "plan.go:125", #[⟨12, .data⟩, ⟨7, .guard⟩], some (7, true)⟩) rfl (fun K hK => ?_) AllReadyH.nil)
           go_simp
           obtain ⟨wz13, hwz⟩ : ∃ v, v = wz11.alloc (Obj.cells #[.int .i64 (k : Int)] 3) := ⟨_, rfl⟩
           rw [← hwz]
           have hl : Below wz11.heap.size wz11 wz13 := by rw [hwz]; exact below_new _ _
           have hbz13 := bthen hbz11 hl
           have iN : Blk wz13 wz11.heap.size 3 [.int .i64 (k : Int)] := by rw [hwz]; exact Blk.new _ _ _
           generalize wz11.heap.size = G at iN ⊢
           clear hwz
           have iV1 := iV1.carry hl
           have hm4 := hm4.carry hl
           have hown := hown.carry hl
           have hu := hu.carry hl
           clear hl
           refine hK.out _ _ trivial (fun hHeld5 => ?_)
           clear hK K hHeld4
           try simp only [Act.put, zS]
           refine wpAnyH_ready (rs := [14]) (by kernel_rfl) (by simp) ?_
           refine (AllReadyH.cons (o := ⟨some 45, .call ⟨.builtin .append, #[.tmp 42, .tmp 44], #[63, 63]⟩, 63, "plan.go:125", #[⟨11, .data⟩, ⟨13, .data⟩, ⟨11, .chain⟩, ⟨7, .guard⟩], some (7, true)⟩) rfl (fun K hK => ?_) AllReadyH.nil)
           have hsz := (hbz13).size
           refine wp_append_own wz13 (.tmp 42) (.tmp 44) 63 rfl V1.heap.size 3 i0 (.int .i64 0) 1 8 Tryz.undZint hi hz0 hz1 hz2 rfl (by decide) u b.length _ rfl hu ⟨G, 0, none⟩ 1 1 [.int .i64 (k : Int)] rfl rfl (fun j u hj => by rw [addr_add, Nat.zero_add]; exact iN.cell hj) (by simp [Value.oneCell']) (by unfold maxLen; have := HNB.out; omega) (by have := HNB.out; omega) hsz ?_
           intro v9 wz14 hown9 hgrow9 _
           have hbz14 := (hbz13).grown hgrow9 hsz (fun k' hk' => (World.ownsRow.lt hu k' hk').1)
           refine hK.out _ _ trivial (fun hHeld6 => ?_)
           clear hK K hHeld5
           try simp only [Act.put, zS]
           refine wpAnyH_ready (rs := [16]) (by kernel_rfl) (by simp) ?_
           refine (AllReadyH.cons (o := ⟨some 47, .call ⟨.value (.func 144), #[.tmp 39, .tmp 40, .tmp 45, .tmp 46], #[87, 89, 63, 222]⟩, 4, "plan.go:125", #[⟨8, .data⟩, ⟨9, .data⟩, ⟨14, .data⟩, ⟨15, .data⟩, ⟨14, .chain⟩, ⟨7, .guard⟩], some (7, true)⟩) rfl (fun K hK => ?_) AllReadyH.nil)
           have hb14 := (hbz14)
           have hown9' : OwnI 3 n₁ wz14 v9 (b ++ [(k : Int)]) := OwnI.base (base := V1.heap.size) (by unfold OwnI; rw [List.length_append, List.map_append]; exact hown9) (by omega)
           have hih := IH.out (b ++ [(k : Int)]) v9 xs wz14 HLEN9.out HBR9.out hown9' (HVB.out.trans (hb14.mono HVB.out.size)) (by have := hb14.size; omega) (HJ.out _ _ _ hj (grownD hb14)) HLL.out
           have HK9 := Lib.hid (hkp.trans (KPl.below (n₁ := n₁) hb14 (by omega)))
           go_simp
           refine hih.mono ?_
           clear hih hown9 hown9' hb14
           rintro e wz16 ⟨r, rfl, hT, hF⟩
           (try go_wp2_with fail)
           refine hK.out _ _ trivial (fun hHeld7 => ?_)
           clear hK K hHeld6
           try simp only [Act.put, zS]
           refine zH 17 ⟨some 48, .unOp .not 4 (.tmp 47), 4, "plan.go:125", #[⟨16, .data⟩, ⟨7, .guard⟩], some (7, true)⟩ rfl ?_
           simp only [Act.put, zS]
           refine zH 18 ⟨some 49, .pick (.tmp 38) (.tmp 48) (.const (.bool false)), 4, "plan.go:125", #[⟨7, .data⟩, ⟨17, .data⟩], none⟩ rfl ?_
           simp only [Act.put, zS]
           refine wpAnyH_done (by kernel_rfl) ?_ _
           clear hHeld7
           cases r with
           | true =>
             obtain ⟨ys, h1, h2, h3⟩ := hT rfl
             have H1 := Lib.hid h1
             clear h1 hT hF
             go_wp2
             go_roundw
             case rel => exact ⟨k + 1, ys, by omega, by go_num, by rw [H1.out, HXS.out, HS.out]; simp, h2, HK9.out.trans h3⟩
             case measure => simp [intOf]; omega
           | false =>
             obtain ⟨ys, h1⟩ := hF rfl
             clear hT hF
             go_wp2
             go_ret
             exact ⟨false, rfl, (fun h => by cases h), fun _ => ⟨_, h1⟩⟩
          ·go_simp
           obtain ⟨wz13, hwz⟩ : ∃ v, v = wz6.alloc (Obj.cells #[.int .i64 (k : Int)] 3) := ⟨_, rfl⟩
           rw [← hwz]
           have hl : Below wz6.heap.size wz6 wz13 := by rw [hwz]; exact below_new _ _
           have hbz13 := bthen hbz6 hl
           have iN : Blk wz13 wz6.heap.size 3 [.int .i64 (k : Int)] := by rw [hwz]; exact Blk.new _ _ _
           generalize wz6.heap.size = G at iN ⊢
           clear hwz
           have iV1 := iV1.carry hl
           have hm4 := hm4.carry hl
           have hown := hown.carry hl
           clear hl
           refine hK.out _ _ trivial (fun hHeld4 => ?_)
           clear hK K hHeld3
           try simp only [Act.put, zS]
           refine wpAnyH_ready (rs := [11]) (by kernel_rfl) (by simp) ?_
           refine (AllReadyH.cons (o := ⟨some 42, .call ⟨.value (.func 186), #[.tmp 41], #[63]⟩, 63, "plan.go:125", #[⟨10, .data⟩, ⟨7, .chain⟩, ⟨7, .guard⟩], some (7, true)⟩) rfl (fun K hK => ?_) AllReadyH.nil)
           go_simp
           refine (CloneN_any _ b _ hown.ints (by rw [← HNB.out]; omega)).mono ?_
           rintro e wz11 ⟨⟨u, rfl, hu⟩, hl⟩
           have hu := OwnI.base hu (show V1.heap.size ≤ _ from (hbz13).size)
           (try go_wp2_with fail)
           have hbz11 := bthen hbz13 hl
           have iV1 := iV1.carry hl
           have hm4 := hm4.carry hl
           have hown := hown.carry hl
           have iN := iN.carry hl
           clear hl
           refine hK.out _ _ trivial (fun hHeld5 => ?_)
           clear hK K hHeld4
           try simp only [Act.put, zS]
           refine wpAnyH_ready (rs := [14]) (by kernel_rfl) (by simp) ?_
           refine (AllReadyH.cons (o := ⟨some 45, .call ⟨.builtin .append, #[.tmp 42, .tmp 44], #[63, 63]⟩, 63, "plan.go:125", #[⟨11, .data⟩, ⟨13, .data⟩, ⟨11, .chain⟩, ⟨7, .guard⟩], some (7, true)⟩) rfl (fun K hK => ?_) AllReadyH.nil)
           have hsz := (hbz11).size
           refine wp_append_own wz11 (.tmp 42) (.tmp 44) 63 rfl V1.heap.size 3 i0 (.int .i64 0) 1 8 Tryz.undZint hi hz0 hz1 hz2 rfl (by decide) u b.length _ rfl hu ⟨G, 0, none⟩ 1 1 [.int .i64 (k : Int)] rfl rfl (fun j u hj => by rw [addr_add, Nat.zero_add]; exact iN.cell hj) (by simp [Value.oneCell']) (by unfold maxLen; have := HNB.out; omega) (by have := HNB.out; omega) hsz ?_
           intro v9 wz14 hown9 hgrow9 _
           have hbz14 := (hbz11).grown hgrow9 hsz (fun k' hk' => (World.ownsRow.lt hu k' hk').1)
           refine hK.out _ _ trivial (fun hHeld6 => ?_)
           clear hK K hHeld5
           try simp only [Act.put, zS]
           refine wpAnyH_ready (rs := [16]) (by kernel_rfl) (by simp) ?_
           refine (AllReadyH.cons (o := ⟨some 47, .call ⟨.value (.func 144), #[.tmp 39, .tmp 40, .tmp 45, .tmp 46], #[87, 89, 63, 222]⟩, 4, "plan.go:125", #[⟨8, .data⟩, ⟨9, .data⟩, ⟨14, .data⟩, ⟨15, .data⟩, ⟨14, .chain⟩, ⟨7, .guard⟩], some (7, true)⟩) rfl (fun K hK => ?_) AllReadyH.nil)
           have hb14 := (hbz14)
           have hown9' : OwnI 3 n₁ wz14 v9 (b ++ [(k : Int)]) := OwnI.base (base := V1.heap.size) (by unfold OwnI; rw [List.length_append, List.map_append]; exact hown9) (by omega)
           have hih := IH.out (b ++ [(k : Int)]) v9 xs wz14 HLEN9.out HBR9.out hown9' (HVB.out.trans (hb14.mono HVB.out.size)) (by have := hb14.size; omega) (HJ.out _ _ _ hj (grownD hb14)) HLL.out
           have HK9 := Lib.hid (hkp.trans (KPl.below (n₁ := n₁) hb14 (by omega)))
           go_simp
           refine hih.mono ?_
           clear hih hown9 hown9' hb14
           rintro e wz16 ⟨r, rfl, hT, hF⟩
           (try go_wp2_with fail)
           refine hK.out _ _ trivial (fun hHeld7 => ?_)
           clear hK K hHeld6
           try simp only [Act.put, zS]
           refine zH 17 ⟨some 48, .unOp .not 4 (.tmp 47), 4, "plan.go:125", #[⟨16, .data⟩, ⟨7, .guard⟩], some (7, true)⟩ rfl ?_
           simp only [Act.put, zS]
           refine zH 18 ⟨some 49, .pick (.tmp 38) (.tmp 48) (.const (.bool false)), 4, "plan.go:125", #[⟨7, .data⟩, ⟨17, .data⟩], none⟩ rfl ?_
           simp only [Act.put, zS]
           refine wpAnyH_done (by kernel_rfl) ?_ _
           clear hHeld7
           cases r with
           | true =>
             obtain ⟨ys, h1, h2, h3⟩ := hT rfl
             have H1 := Lib.hid h1
             clear h1 hT hF
             go_wp2
             go_roundw
             case rel => exact ⟨k + 1, ys, by omega, by go_num, by rw [H1.out, HXS.out, HS.out]; simp, h2, HK9.out.trans h3⟩
             case measure => simp [intOf]; omega
           | false =>
             obtain ⟨ys, h1⟩ := hF rfl
             clear hT hF
             go_wp2
             go_ret
             exact ⟨false, rfl, (fun h => by cases h), fun _ => ⟨_, h1⟩⟩
      ·obtain rfl : k = NO := by omega
       have hdk : ¬ (k : Int) < (k : Int) := by omega
       have HXS := Lib.hid hxs
       clear hxs
       go_wp2
       go_ret
       exact ⟨true, rfl, fun _ => ⟨xs, HXS.out, hj, hkp⟩, fun h => by cases h⟩
end Go.Proofs.YtpmngcffkhbofaaGreatDoor

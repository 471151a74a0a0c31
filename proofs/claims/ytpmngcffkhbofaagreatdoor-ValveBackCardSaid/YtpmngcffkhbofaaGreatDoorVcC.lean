/- Package valve: Plan. -/
import Derived.Test.YtpmngcffkhbofaaGreatDoorVcB
namespace Go.Proofs.YtpmngcffkhbofaaGreatDoor
set_option linter.unusedSimpArgs false
set_option linter.unusedVariables false
open Go.RowKit Go.Maps
attribute [local go_sem] Oper.semAt_some
theorem KPl.of_grown {n₀ n₁ : Nat} {A B : World} {row : Option Nat} (hg : A.grownBy B row) (hr : ∀ r, row = some r → n₀ ≤ r ∧ ∃ o : Obj, A.heap[r]? = some o ∧ o.isCells = false) (hn : n₀ ≤ A.heap.size) : KPl n₀ n₁ A B :=
 ⟨below_grown (Below.refl n₀ A) hg (fun r e => (hr r e).1) hn, fun k c T _ hc => (hg.block k (Array.getElem?_eq_some_iff.1 hc).1 (fun e => by
  obtain ⟨_, o, h1, h2⟩ := hr k e.symm
  rw [hc] at h1; cases h1; cases h2)).trans hc⟩
theorem KPl.set {n₀ n₁ : Nat} (A : World) (p : Addr) (v : Value) (h0 : n₀ ≤ p.block) (h1 : p.block < n₁) : KPl n₀ n₁ A (A.setCell p v) :=
 ⟨(Below.refl _ _).setCell h0 v, fun k c T hk hc => (Below.heap_setCell _ _ _ _ (by omega)).trans hc⟩
theorem Ints.turned {w : World} {v : Value} {l : List Int} (h : Ints w v l) (D : Nat) {o o' : Obj} (hD : w.heap[D]? = some o) (ho : o.isCells = false) : Ints (w.putObj D o') v l := by
 obtain ⟨a, cap, hv, hc, h⟩ := h
 refine ⟨a, cap, hv, hc, fun hl => ?_⟩
 obtain ⟨b, off, ha, h⟩ := h hl
 refine ⟨b, off, ha, fun j hj => ?_⟩
 have hne : b ≠ D := by
  rintro rfl
  have := h j hj
  simp only [World.cell?, hD] at this
  cases o <;> simp_all [Obj.isCells]
 exact (World.cell?_of_block (a := ⟨b, off + j, none⟩) (World.putObj_heap_other hne)).trans (h j hj)
theorem plans_any (vm vo : Value) (w : World) (hm : ∃ a n c, vm = .slice a n c) (ho : ∃ a n c, vo = .slice a n c) :
 Calls Tryz.prog 87 #[vm, vo] w fun r w' => (r = .returned (.func (.func 143) #[] #[.pointer (some ⟨w.heap.size, 0, none⟩), .pointer (some ⟨w.heap.size + 1, 0, none⟩)]) ∧ Blk w' w.heap.size 87 [vm] ∧ Blk w' (w.heap.size + 1) 89 [vo] ∧ w'.heap.size = w.heap.size + 1 + 1) ∧ Below w.heap.size w w' := by
 obtain ⟨ma, mn, mc, rfl⟩ := hm
 obtain ⟨oa, on, oc, rfl⟩ := ho
 go_enter Tryz.func87, Tryz.ntmps87
 go_upto_region 1 with fail
 obtain ⟨W1, hW1⟩ : ∃ v, v = World.alloc w (Obj.cells #[.slice ma mn mc] 87) := ⟨_, rfl⟩
 have kW1 : Below w.heap.size w W1 := by rw [hW1]; exact below_new _ _
 have iW1 : Blk W1 (w.heap.size) 87 [.slice ma mn mc] := by rw [hW1]; exact Blk.new _ _ _
 have sW1 : W1.heap.size = w.heap.size + 1 := by rw [hW1]; simp
 rw [← hW1]
 clear hW1
 obtain ⟨W2, hW2⟩ : ∃ v, v = World.alloc W1 (Obj.cells #[.slice oa on oc] 89) := ⟨_, rfl⟩
 have kW2 : Below W1.heap.size W1 W2 := by rw [hW2]; exact below_new _ _
 have iW2 : Blk W2 (w.heap.size + 1) 89 [.slice oa on oc] := by rw [hW2, ← sW1]; exact Blk.new _ _ _
 have sW2 : W2.heap.size = w.heap.size + 1 + 1 := by rw [hW2]; simp [sW1]
 rw [← hW2]
 clear hW2
 go_wp2
 go_ret
 exact ⟨⟨rfl, iW1.carry kW2, iW2, sW2⟩, bthen kW1 kW2⟩
theorem plans_seq (w0 : World) (n₁ A B : Nat) (vm vo : Value) (ms : List Mo) (os : List I3) (hml : ms.length ≤ 1000) (hol : os.length ≤ 1000) (hm : Rw 4 mV w0 vm ms) (ho : Rw 3 iV w0 vo os)
 (hor : ∀ o ∈ os, 0 ≤ o.2.1 ∧ o.2.1 ≤ 100) (hmr : ∀ m ∈ ms, 0 ≤ m.2.2.2 ∧ m.2.2.2 ≤ 100) (hn0 : w0.heap.size ≤ n₁) (w : World) (hw : Below w0.heap.size w0 w) (hn1 : n₁ ≤ w.heap.size) (iA : Blk w A 87 [vm]) (iB : Blk w B 89 [vo]) :
 SeqX Fence.wide 4 Tryz.prog 143 #[.pointer (some ⟨A, 0, none⟩), .pointer (some ⟨B, 0, none⟩)] (fun x : Value × List Int => #[x.1]) (fun pre x W => OwnI 3 n₁ W x.1 x.2 ∧ Below w0.heap.size w0 W ∧ ∃ post, plansL ms os = pre.map Prod.snd ++ x.2 :: post) (KPl w0.heap.size n₁) (fun xs => xs.map Prod.snd = plansL ms os) (fun _ => True) false w := by
 intro l J Jx W hWW hJ hJx hY h00
 refine (callsIn_wide (n := 4)).2 ?_
 have hB := hw.trans (hWW.mono hw.size)
 have TE := Lib.hid (extend_any w0 n₁ l vm vo ms os (plansL ms os) hml hol hm ho hor hmr hn0 J Jx (fun pre A B h hg => hJ pre A B none h hg (fun r e => by cases e)) hY ms.length [] (.slice none 0 0) [] W (by simp) (by simp) ⟨rfl, .inl ⟨rfl, rfl⟩⟩ hB (by have := hWW.size; omega) h00 ⟨[], by simp [plansL]⟩)
 have a0 := (Blk.carry iA hWW).cell (j := 0) (v := vm) rfl
 have b0 := (Blk.carry iB hWW).cell (j := 0) (v := vo) rfl
 obtain ⟨ma, mc, rfl, -⟩ := hm.slice
 obtain ⟨oa, oc, rfl, -⟩ := ho.slice
 clear hY hJ hJx h00 iA iB hm ho hor hmr
 go_enter Tryz.func143, Tryz.ntmps143
 go_wp2_with fail
 refine TE.out.mono ?_
 clear TE
 rintro e w2 ⟨r, rfl, hT, hF⟩
 go_wp2
 go_end0
 refine ⟨⟨_, rfl⟩, ?_⟩
 cases r with
 | true =>
   obtain ⟨xs, h1, h2, h3⟩ := hT rfl
   exact .inl ⟨xs, by rw [h1]; simp [plansL], h2⟩
 | false =>
   obtain ⟨xs, h1⟩ := hF rfl
   exact .inr ⟨xs, trivial, h1⟩
/-- whether a plan is taken for the best one. -/
def cndB (os : List I3) : Option (List Int) → List Int → Bool
 | none, _ => true
 | some y, x => decide (costL os x < costL os y)
theorem betS_eq (os : List I3) (o : Option (List Int)) (x : List Int) : betS os o x = some (if cndB os o x = true then x else o.getD []) := by
 cases o with
 | none => rfl
 | some y =>
   unfold betS cndB
   by_cases h : costL os x < costL os y <;> simp [h]
/-- between the rounds: the best plan so far. -/
def PlI (w : World) (n₁ BO BB : Nat) (vo : Value) (os : List I3) (pre : List (Value × List Int)) (W : World) : Prop :=
 (∃ vb, Blk W BB 63 [vb] ∧ OwnI 3 n₁ W vb ((betO os (pre.map Prod.snd)).getD [])) ∧ Blk W (BB + 1) 4 [.bool (betO os (pre.map Prod.snd)).isSome] ∧ Blk W BO 89 [vo] ∧ (∀ x, betO os (pre.map Prod.snd) = some x → costL os x ≠ 0) ∧ Below w.heap.size w W ∧ n₁ ≤ W.heap.size
def PlX (w : World) (n₁ BO BB : Nat) (vo : Value) (os : List I3) (LL : List (List Int)) (c : Code) (pre : List (Value × List Int)) (W : World) : Prop :=
 c = .exit 0 ∧ (∃ vb, Blk W BB 63 [vb] ∧ OwnI 3 n₁ W vb ((betO os LL).getD [])) ∧ Blk W (BB + 1) 4 [.bool true] ∧ (betO os LL).isSome = true ∧ Blk W BO 89 [vo] ∧ Below w.heap.size w W
theorem PlI.own {w : World} {n₁ BO BB : Nat} {vo : Value} {os : List I3} {H : Nat} (hH : w.heap.size ≤ H) : OwnFrom H (PlI w n₁ BO BB vo os) := by
 rintro pre A B row ⟨⟨vb, h1, h2⟩, h3, h4, h5, h6, h7⟩ hg hr
 have hb : ∀ {k : Nat} {T : TypeId} {vs : List Value}, Blk A k T vs → Blk B k T vs := fun hk => blk_own hk hg (fun r e => ne_of_blk hk (hr r e).2)
 have hk : KPl w.heap.size n₁ A B := KPl.of_grown hg (fun r e => ⟨by have := (hr r e).1; omega, (hr r e).2⟩) (by have := h6.size; omega)
 exact ⟨⟨vb, hb h1, h2.kpl hk⟩, hb h3, hb h4, h5, h6.trans hk.1, Nat.le_trans h7 hg.size⟩
theorem PlX.own {w : World} {n₁ BO BB : Nat} {vo : Value} {os : List I3} {LL : List (List Int)} {H : Nat} (hH : w.heap.size ≤ H) (c : Code) : OwnFrom H (PlX w n₁ BO BB vo os LL c) := by
 rintro pre A B row ⟨h0, ⟨vb, h1, h2⟩, h3, h4, h5, h6⟩ hg hr
 have hb : ∀ {k : Nat} {T : TypeId} {vs : List Value}, Blk A k T vs → Blk B k T vs := fun hk => blk_own hk hg (fun r e => ne_of_blk hk (hr r e).2)
 have hk : KPl w.heap.size n₁ A B := KPl.of_grown hg (fun r e => ⟨by have := (hr r e).1; omega, (hr r e).2⟩) (by have := h6.size; omega)
 exact ⟨h0, ⟨vb, hb h1, h2.kpl hk⟩, hb h3, h4, hb h5, h6.trans hk.1⟩
set_option maxRecDepth 100000 in
set_option maxHeartbeats 8000000 in
theorem Plan_any (vm vo : Value) (ms : List Mo) (os : List I3) (w : World) (hml : ms.length ≤ 1000) (hls : ∀ m ∈ ms, m.1.size ≤ 1000000) (hol : os.length ≤ 1000) (hm : Rw 4 mV w vm ms) (ho : Rw 3 iV w vo os) :
 Calls Tryz.prog 36 #[vm, vo] w fun r w' => (∃ u, r = .returned (.tuple #[u, .int .i64 (planC ms os), .int .i64 (planE ms os)]) ∧ Ints w' u (planR ms os)) ∧ Below w.heap.size w w' := by
 have TK := Lib.hid (fun W (hm : Rw 4 mV W vm ms) (ho : Rw 3 iV W vo os) => check_any vm vo ms os W hml hls hol hm ho)
 have hE0 : bothE ms os ≠ 0 → planE ms os = bothE ms os ∧ planC ms os = 0 ∧ planR ms os = [] := fun h => ⟨by unfold planE; rw [if_neg h], by unfold planC; rw [if_neg h], by unfold planR; rw [if_neg h]⟩
 have hE1 : bothE ms os = 0 → planE ms os = (if (planO ms os).isSome = true then 0 else 18) ∧ planC ms os = cosO os (planO ms os) ∧ planR ms os = (planO ms os).getD [] := fun h => ⟨by unfold planE; rw [if_pos h], by unfold planC; rw [if_pos h], by unfold planR; rw [if_pos h]⟩
 have hok := @bothE_ok ms os
 obtain ⟨E, hE⟩ : ∃ e, e = bothE ms os := ⟨_, rfl⟩
 rw [← hE] at TK hE0 hE1 hok
 obtain ⟨PE, hPE⟩ : ∃ e, e = planE ms os := ⟨_, rfl⟩
 obtain ⟨PC, hPC⟩ : ∃ e, e = planC ms os := ⟨_, rfl⟩
 obtain ⟨PR, hPR⟩ : ∃ e, e = planR ms os := ⟨_, rfl⟩
 rw [← hPE, ← hPC, ← hPR] at hE0 hE1
 rw [← hPE, ← hPC, ← hPR]
 obtain ⟨ma, mc, rfl, -⟩ := hm.slice
 obtain ⟨oa, oc, rfl, -⟩ := ho.slice
 obtain ⟨NM, hNM⟩ : ∃ N, N = ms.length := ⟨_, rfl⟩
 obtain ⟨NO, hNO⟩ : ∃ N, N = os.length := ⟨_, rfl⟩
 rw [← hNM] at TK hm ⊢
 rw [← hNO] at TK ho ⊢
 have HE0 := Lib.hid hE0
 have HE1 := Lib.hid hE1
 have HOK := Lib.hid hok
 have HM := Lib.hid hm
 have HO := Lib.hid ho
 have HNM := Lib.hid hNM
 have HNO := Lib.hid hNO
 clear hE0 hE1 hok hE hPE hPC hPR hNM hNO
 refine calls_of_postR Tryz.func36 rfl ?_
 simp only [Tryz.ntmps36, List.size_toArray, List.length_cons, List.length_nil, Nat.reduceAdd, Nat.reduceSub, Array.replicate_succ, Array.replicate_zero, List.push_toArray, List.append_toArray, List.nil_append, List.cons_append]
 go_wp2_with fail
 obtain ⟨W1, hW1⟩ : ∃ v, v = World.alloc w (Obj.cells #[.slice oa NO oc] 89) := ⟨_, rfl⟩
 have kW1 : Below w.heap.size w W1 := by rw [hW1]; exact below_new _ _
 have iW1 : Blk W1 (w.heap.size) 89 [.slice oa NO oc] := by rw [hW1]; exact Blk.new _ _ _
 have sW1 : W1.heap.size = w.heap.size + 1 := by rw [hW1]; simp
 rw [← hW1]
 clear hW1
 have o0 := iW1.cell (j := 0) (v := .slice oa NO oc) rfl
 go_step3
 go_wp2_with fail
 refine (TK.out W1 (hm.carry kW1) (ho.carry kW1)).mono ?_
 rintro e w2 ⟨rfl, hb2⟩
 have i2 := iW1.carry hb2
 have hB2 := bthen kW1 hb2
 clear o0 iW1 sW1 kW1 hb2 hm ho TK
 by_cases h0 : E = 0
 ·subst h0
  obtain ⟨rfl, rfl, rfl⟩ := HE1.out (by trivial)
  obtain ⟨hmo, hoo⟩ := HOK.out (by trivial)
  have HOR := Lib.hid (outE_ok hoo)
  have HMR := Lib.hid (modsE_ok hmo)
  clear HE0 HE1 HOK hmo hoo
  go_wp2_with fail
  obtain ⟨V1, hV1⟩ : ∃ v, v = World.alloc w2 (Obj.cells #[.slice none 0 0] 63) := ⟨_, rfl⟩
  have kV1 : Below w2.heap.size w2 V1 := by rw [hV1]; exact below_new _ _
  have iV1 : Blk V1 (w2.heap.size) 63 [.slice none 0 0] := by rw [hV1]; exact Blk.new _ _ _
  have sV1 : V1.heap.size = w2.heap.size + 1 := by rw [hV1]; simp
  rw [← hV1]
  clear hV1
  obtain ⟨V2, hV2⟩ : ∃ v, v = World.alloc V1 (Obj.cells #[.bool false] 4) := ⟨_, rfl⟩
  have kV2 : Below V1.heap.size V1 V2 := by rw [hV2]; exact below_new _ _
  have iV2 : Blk V2 (w2.heap.size + 1) 4 [.bool false] := by rw [hV2, ← sV1]; exact Blk.new _ _ _
  have sV2 : V2.heap.size = w2.heap.size + 1 + 1 := by rw [hV2]; simp [sV1]
  rw [← hV2]
  clear hV2
  have kV := bthen kV1 kV2
  have j1 := iV1.carry kV2
  have j2 := iV2
  have i3 := i2.carry kV
  have hB3 := bthen hB2 kV
  have hs2 : w.heap.size < w2.heap.size := Blk.lt i2
  obtain ⟨BB, hBB⟩ : ∃ B, B = w2.heap.size := ⟨_, rfl⟩
  rw [← hBB] at j1 j2 hs2 sV2 ⊢
  have o0 := i3.cell (j := 0) (v := .slice oa NO oc) rfl
  clear i2 hB2 kV kV1 kV2 iV1 iV2 sV1 hBB
  go_step3
  go_wp2_with fail
  refine (plans_any _ _ V2 ⟨_, _, _, rfl⟩ ⟨_, _, _, rfl⟩).mono ?_
  rintro e V ⟨⟨rfl, iA, iB, hsV⟩, hbV⟩
  rw [sV2] at iA iB hsV
  replace i3 := i3.carry hbV
  replace j1 := j1.carry hbV
  replace j2 := j2.carry hbV
  have hB := bthen hB3 hbV
  have hBV : BB + 2 ≤ V.heap.size := by omega
  have hwV : w.heap.size ≤ V.heap.size := hB.size
  clear o0 hB3 hbV hsV
  have TC := Lib.hid (fun (l : List Int) (v : Value) (W : World) (ho : Rw 3 iV W (.slice oa NO oc) os) (hv : Ints W v l) (hl : l.length ≤ 1000) => cost_any (.slice oa NO oc) v os l W ho hv hol hl (fun o h => (HOR.out.2 o h).2.2))
  have hlen : ∀ x ∈ plansL ms os, x.length ≤ 1000 := fun x hx => by rw [(plansL_mem hx).2.1]; omega
  have HLEN := Lib.hid hlen
  have HBL := Lib.hid (fun (x : List Int) (h : betO os (plansL ms os) = some x) => hlen x (betO_mem h))
  have hpos : ∀ x : List Int, 0 ≤ costL os x := fun x => (costK_rng os x (fun o h => (HOR.out.2 o h).2.2) _).1
  have HPOS := Lib.hid hpos
  clear hlen hpos
  go_wp2_with fail
  refine wp_rangeV (p := 20) (s := 10) (δ := List Int) (gf := 143) (lb := #[.pointer (some ⟨BB + 1 + 1, 0, none⟩), .pointer (some ⟨BB + 1 + 1 + 1, 0, none⟩)]) (wr := false) rfl (enters_of Tryz.func143 (by kernel_rfl) rfl)
   (plans_seq w V.heap.size (BB + 1 + 1) (BB + 1 + 1 + 1) (.slice ma NM mc) (.slice oa NO oc) ms os hml hol HM.out HO.out (fun o h => (HOR.out.2 o h).2.1) (fun m h => by have := (HMR.out.2 m h).2.2.2; omega) hwV V hB (Nat.le_refl _) iA iB)
   KPl.trans (fun W l o o' hl h h1 _ => KPl.turn W l o o' (by omega) h h1) (KPl.refl _ _) (Below.refl _ _)
   (PlI w V.heap.size w.heap.size BB (.slice oa NO oc) os) (PlX w V.heap.size w.heap.size BB (.slice oa NO oc) os (plansL ms os)) (PlI.own hwV) (fun c => PlX.own hwV c)
   ⟨⟨_, j1, ⟨rfl, .inl ⟨rfl, rfl⟩⟩⟩, j2, i3, (fun x h => by cases h), hB, Nat.le_refl _⟩ (fun h => by cases h)
   (fun pre x A B row ⟨h1, h2, h3⟩ hg hr => by
     have hk : KPl w.heap.size V.heap.size A B := KPl.of_grown hg (fun r e => ⟨by have := (hr r e).1; omega, (hr r e).2⟩) h2.size
     exact ⟨h1.kpl hk, h2.trans hk.1, h3⟩) ?assign ?body ?done ?stop
  case assign =>
   clear i3 j1 j2 iA iB
   intro l v W K hK
   gi_wp2
   exact hK
  case body =>
   clear i3 j1 j2 iA iB
   rintro ll pre ⟨xv, xl⟩ W ⟨⟨vb, j1, hvb⟩, j2, i3, hne, hBW, hn1⟩ ⟨hx, -, post, hpost⟩
   dsimp only at hx hpost
   simp only [List.setIfInBounds_toArray, List.set_cons_succ, List.set_cons_zero]
   have hwf : ∀ f, (Fence.wide.inRound ll).fn f := fun _ => trivial
   have hxl := HLEN.out xl (by rw [hpost]; simp)
   have hyl : ∀ y, betO os (pre.map Prod.snd) = some y → y.length ≤ 1000 := fun y hy => HLEN.out y (by have := betO_mem hy; rw [hpost]; simp [this])
   have hnew : betO os ((pre ++ [(xv, xl)]).map Prod.snd) = some (if cndB os (betO os (pre.map Prod.snd)) xl = true then xl else (betO os (pre.map Prod.snd)).getD []) := by
    rw [List.map_append, List.map_singleton, betO_snoc, betS_eq]
   have hpost2 : plansL ms os = (pre ++ [(xv, xl)]).map Prod.snd ++ post := by rw [hpost]; simp
   obtain ⟨o, hoe⟩ : ∃ o, o = betO os (pre.map Prod.snd) := ⟨_, rfl⟩
   rw [← hoe] at hvb j2 hne hyl hnew
   obtain ⟨cnd, hcnd⟩ : ∃ c, c = cndB os o xl := ⟨_, rfl⟩
   rw [← hcnd] at hnew
   have HNEW := Lib.hid hnew
   have HPOST := Lib.hid hpost2
   have HCND := Lib.hid hcnd
   have HYL := Lib.hid hyl
   have hd : Below W.heap.size W W.drew := (Below.refl _ _).drew
   obtain ⟨xa, xc, hxv⟩ := own_slice hx
   subst hxv
   obtain ⟨ya, yc, hyv⟩ := own_slice hvb
   subst hyv
   clear hnew hpost hpost2 hoe hcnd hyl hne
   gi_upto_region 8 with fail
   gi_cut [31] from 21 (fun u31 wn => u31 = .bool cnd ∧ Below W.heap.size W wn)
   case first =>
    cases o with
    | none =>
      obtain rfl : cnd = true := HCND.out
      have c9 := (Blk.carry j2 hd).cell (j := 0) (v := .bool false) rfl
      clear j1 j2 i3 hvb hx
      refine wpIn_region_any (by kernel_rfl) ?_
      (try (change wpAnyIn _ _ _ _ _ _ _ _ _ (World.drew _)))
      refine zR 0 rfl (fun K hK => ?_)
      go_simp; refine hK _ _ ?_; clear hK K; try simp only [Act.put, zS]
      refine zR 1 rfl (fun K hK => ?_)
      go_simp; refine hK _ _ ?_; clear hK K; try simp only [Act.put, zS]
      refine zR 2 rfl (fun K hK => ?_)
      go_simp; refine hK _ _ ?_; clear hK K; try simp only [Act.put, zS]
      refine wpAnyIn_ready (rs := [3, 4, 6, 7]) (by kernel_rfl) (by simp) (AllReadyIn.cons rfl (fun K hK => ?_) (AllReadyIn.cons rfl (fun K hK => ?_) (AllReadyIn.cons rfl (fun K hK => ?_) (AllReadyIn.cons rfl (fun K hK => ?_) AllReadyIn.nil))))
      ·go_simp; refine hK _ _ ?_; clear hK K; try simp only [Act.put, zS]
       refine wpAnyIn_ready (rs := [4, 6, 7]) (by kernel_rfl) (by simp) (AllReadyIn.cons rfl (fun K hK => ?_) (AllReadyIn.cons rfl (fun K hK => ?_) (AllReadyIn.cons rfl (fun K hK => ?_) AllReadyIn.nil)))
       ·go_simp; refine hK _ _ ?_; clear hK K; try simp only [Act.put, zS]
        refine wpAnyIn_ready (rs := [5, 6, 7]) (by kernel_rfl) (by simp) (AllReadyIn.cons rfl (fun K hK => ?_) (AllReadyIn.cons rfl (fun K hK => ?_) (AllReadyIn.cons rfl (fun K hK => ?_) AllReadyIn.nil)))
        ·go_simp; refine hK _ _ ?_; clear hK K; try simp only [Act.put, zS]
         refine wpAnyIn_ready (rs := [6, 7]) (by kernel_rfl) (by simp) (AllReadyIn.cons rfl (fun K hK => ?_) (AllReadyIn.cons rfl (fun K hK => ?_) AllReadyIn.nil))
         ·go_simp; refine hK _ _ ?_; clear hK K; try simp only [Act.put, zS]
          refine zR 7 rfl (fun K hK => ?_)
          go_simp; refine hK _ _ ?_; clear hK K; try simp only [Act.put, zS]
          refine zR 8 rfl (fun K hK => ?_)
          go_simp; refine hK _ _ ?_; clear hK K; try simp only [Act.put, zS]
          refine zR 9 rfl (fun K hK => ?_)
          go_simp; refine hK _ _ ?_; clear hK K; try simp only [Act.put, zS]
          refine zR 10 rfl (fun K hK => ?_)
          go_simp; refine hK _ _ ?_; clear hK K; try simp only [Act.put, zS]
          refine wpAnyIn_done (by kernel_rfl) ?_ _
          gi_wp2_with fail
          gi_meet
          exact ⟨rfl, hd⟩
         ·go_simp; refine hK _ _ ?_; clear hK K; try simp only [Act.put, zS]
          refine zR 6 rfl (fun K hK => ?_)
          go_simp; refine hK _ _ ?_; clear hK K; try simp only [Act.put, zS]
          refine zR 8 rfl (fun K hK => ?_)
          go_simp; refine hK _ _ ?_; clear hK K; try simp only [Act.put, zS]
          refine zR 9 rfl (fun K hK => ?_)
          go_simp; refine hK _ _ ?_; clear hK K; try simp only [Act.put, zS]
          refine zR 10 rfl (fun K hK => ?_)
          go_simp; refine hK _ _ ?_; clear hK K; try simp only [Act.put, zS]
          refine wpAnyIn_done (by kernel_rfl) ?_ _
          gi_wp2_with fail
          gi_meet
          exact ⟨rfl, hd⟩
        ·go_simp; refine hK _ _ ?_; clear hK K; try simp only [Act.put, zS]
         refine wpAnyIn_ready (rs := [5, 7]) (by kernel_rfl) (by simp) (AllReadyIn.cons rfl (fun K hK => ?_) (AllReadyIn.cons rfl (fun K hK => ?_) AllReadyIn.nil))
         ·go_simp; refine hK _ _ ?_; clear hK K; try simp only [Act.put, zS]
          refine zR 7 rfl (fun K hK => ?_)
          go_simp; refine hK _ _ ?_; clear hK K; try simp only [Act.put, zS]
          refine zR 8 rfl (fun K hK => ?_)
          go_simp; refine hK _ _ ?_; clear hK K; try simp only [Act.put, zS]
          refine zR 9 rfl (fun K hK => ?_)
          go_simp; refine hK _ _ ?_; clear hK K; try simp only [Act.put, zS]
          refine zR 10 rfl (fun K hK => ?_)
          go_simp; refine hK _ _ ?_; clear hK K; try simp only [Act.put, zS]
          refine wpAnyIn_done (by kernel_rfl) ?_ _
          gi_wp2_with fail
          gi_meet
          exact ⟨rfl, hd⟩
         ·go_simp; refine hK _ _ ?_; clear hK K; try simp only [Act.put, zS]
          refine zR 5 rfl (fun K hK => ?_)
          go_simp; refine hK _ _ ?_; clear hK K; try simp only [Act.put, zS]
          refine zR 8 rfl (fun K hK => ?_)
          go_simp; refine hK _ _ ?_; clear hK K; try simp only [Act.put, zS]
          refine zR 9 rfl (fun K hK => ?_)
          go_simp; refine hK _ _ ?_; clear hK K; try simp only [Act.put, zS]
          refine zR 10 rfl (fun K hK => ?_)
          go_simp; refine hK _ _ ?_; clear hK K; try simp only [Act.put, zS]
          refine wpAnyIn_done (by kernel_rfl) ?_ _
          gi_wp2_with fail
          gi_meet
          exact ⟨rfl, hd⟩
        ·go_simp; refine hK _ _ ?_; clear hK K; try simp only [Act.put, zS]
         refine wpAnyIn_ready (rs := [5, 6]) (by kernel_rfl) (by simp) (AllReadyIn.cons rfl (fun K hK => ?_) (AllReadyIn.cons rfl (fun K hK => ?_) AllReadyIn.nil))
         ·go_simp; refine hK _ _ ?_; clear hK K; try simp only [Act.put, zS]
          refine zR 6 rfl (fun K hK => ?_)
          go_simp; refine hK _ _ ?_; clear hK K; try simp only [Act.put, zS]
          refine zR 8 rfl (fun K hK => ?_)
          go_simp; refine hK _ _ ?_; clear hK K; try simp only [Act.put, zS]
          refine zR 9 rfl (fun K hK => ?_)
          go_simp; refine hK _ _ ?_; clear hK K; try simp only [Act.put, zS]
          refine zR 10 rfl (fun K hK => ?_)
          go_simp; refine hK _ _ ?_; clear hK K; try simp only [Act.put, zS]
          refine wpAnyIn_done (by kernel_rfl) ?_ _
          gi_wp2_with fail
          gi_meet
          exact ⟨rfl, hd⟩
         ·go_simp; refine hK _ _ ?_; clear hK K; try simp only [Act.put, zS]
          refine zR 5 rfl (fun K hK => ?_)
          go_simp; refine hK _ _ ?_; clear hK K; try simp only [Act.put, zS]
          refine zR 8 rfl (fun K hK => ?_)
          go_simp; refine hK _ _ ?_; clear hK K; try simp only [Act.put, zS]
          refine zR 9 rfl (fun K hK => ?_)
          go_simp; refine hK _ _ ?_; clear hK K; try simp only [Act.put, zS]
          refine zR 10 rfl (fun K hK => ?_)
          go_simp; refine hK _ _ ?_; clear hK K; try simp only [Act.put, zS]
          refine wpAnyIn_done (by kernel_rfl) ?_ _
          gi_wp2_with fail
          gi_meet
          exact ⟨rfl, hd⟩
       ·go_simp; refine hK _ _ ?_; clear hK K; try simp only [Act.put, zS]
        refine wpAnyIn_ready (rs := [4, 7]) (by kernel_rfl) (by simp) (AllReadyIn.cons rfl (fun K hK => ?_) (AllReadyIn.cons rfl (fun K hK => ?_) AllReadyIn.nil))
        ·go_simp; refine hK _ _ ?_; clear hK K; try simp only [Act.put, zS]
         refine wpAnyIn_ready (rs := [5, 7]) (by kernel_rfl) (by simp) (AllReadyIn.cons rfl (fun K hK => ?_) (AllReadyIn.cons rfl (fun K hK => ?_) AllReadyIn.nil))
         ·go_simp; refine hK _ _ ?_; clear hK K; try simp only [Act.put, zS]
          refine zR 7 rfl (fun K hK => ?_)
          go_simp; refine hK _ _ ?_; clear hK K; try simp only [Act.put, zS]
          refine zR 8 rfl (fun K hK => ?_)
          go_simp; refine hK _ _ ?_; clear hK K; try simp only [Act.put, zS]
          refine zR 9 rfl (fun K hK => ?_)
          go_simp; refine hK _ _ ?_; clear hK K; try simp only [Act.put, zS]
          refine zR 10 rfl (fun K hK => ?_)
          go_simp; refine hK _ _ ?_; clear hK K; try simp only [Act.put, zS]
          refine wpAnyIn_done (by kernel_rfl) ?_ _
          gi_wp2_with fail
          gi_meet
          exact ⟨rfl, hd⟩
         ·go_simp; refine hK _ _ ?_; clear hK K; try simp only [Act.put, zS]
          refine zR 5 rfl (fun K hK => ?_)
          go_simp; refine hK _ _ ?_; clear hK K; try simp only [Act.put, zS]
          refine zR 8 rfl (fun K hK => ?_)
          go_simp; refine hK _ _ ?_; clear hK K; try simp only [Act.put, zS]
          refine zR 9 rfl (fun K hK => ?_)
          go_simp; refine hK _ _ ?_; clear hK K; try simp only [Act.put, zS]
          refine zR 10 rfl (fun K hK => ?_)
          go_simp; refine hK _ _ ?_; clear hK K; try simp only [Act.put, zS]
          refine wpAnyIn_done (by kernel_rfl) ?_ _
          gi_wp2_with fail
          gi_meet
          exact ⟨rfl, hd⟩
        ·go_simp; refine hK _ _ ?_; clear hK K; try simp only [Act.put, zS]
         refine zR 4 rfl (fun K hK => ?_)
         go_simp; refine hK _ _ ?_; clear hK K; try simp only [Act.put, zS]
         refine zR 5 rfl (fun K hK => ?_)
         go_simp; refine hK _ _ ?_; clear hK K; try simp only [Act.put, zS]
         refine zR 8 rfl (fun K hK => ?_)
         go_simp; refine hK _ _ ?_; clear hK K; try simp only [Act.put, zS]
         refine zR 9 rfl (fun K hK => ?_)
         go_simp; refine hK _ _ ?_; clear hK K; try simp only [Act.put, zS]
         refine zR 10 rfl (fun K hK => ?_)
         go_simp; refine hK _ _ ?_; clear hK K; try simp only [Act.put, zS]
         refine wpAnyIn_done (by kernel_rfl) ?_ _
         gi_wp2_with fail
         gi_meet
         exact ⟨rfl, hd⟩
       ·go_simp; refine hK _ _ ?_; clear hK K; try simp only [Act.put, zS]
        refine wpAnyIn_ready (rs := [4, 6]) (by kernel_rfl) (by simp) (AllReadyIn.cons rfl (fun K hK => ?_) (AllReadyIn.cons rfl (fun K hK => ?_) AllReadyIn.nil))
        ·go_simp; refine hK _ _ ?_; clear hK K; try simp only [Act.put, zS]
         refine wpAnyIn_ready (rs := [5, 6]) (by kernel_rfl) (by simp) (AllReadyIn.cons rfl (fun K hK => ?_) (AllReadyIn.cons rfl (fun K hK => ?_) AllReadyIn.nil))
         ·go_simp; refine hK _ _ ?_; clear hK K; try simp only [Act.put, zS]
          refine zR 6 rfl (fun K hK => ?_)
          go_simp; refine hK _ _ ?_; clear hK K; try simp only [Act.put, zS]
          refine zR 8 rfl (fun K hK => ?_)
          go_simp; refine hK _ _ ?_; clear hK K; try simp only [Act.put, zS]
          refine zR 9 rfl (fun K hK => ?_)
          go_simp; refine hK _ _ ?_; clear hK K; try simp only [Act.put, zS]
          refine zR 10 rfl (fun K hK => ?_)
          go_simp; refine hK _ _ ?_; clear hK K; try simp only [Act.put, zS]
          refine wpAnyIn_done (by kernel_rfl) ?_ _
          gi_wp2_with fail
          gi_meet
          exact ⟨rfl, hd⟩
         ·go_simp; refine hK _ _ ?_; clear hK K; try simp only [Act.put, zS]
          refine zR 5 rfl (fun K hK => ?_)
          go_simp; refine hK _ _ ?_; clear hK K; try simp only [Act.put, zS]
          refine zR 8 rfl (fun K hK => ?_)
          go_simp; refine hK _ _ ?_; clear hK K; try simp only [Act.put, zS]
          refine zR 9 rfl (fun K hK => ?_)
          go_simp; refine hK _ _ ?_; clear hK K; try simp only [Act.put, zS]
          refine zR 10 rfl (fun K hK => ?_)
          go_simp; refine hK _ _ ?_; clear hK K; try simp only [Act.put, zS]
          refine wpAnyIn_done (by kernel_rfl) ?_ _
          gi_wp2_with fail
          gi_meet
          exact ⟨rfl, hd⟩
        ·go_simp; refine hK _ _ ?_; clear hK K; try simp only [Act.put, zS]
         refine zR 4 rfl (fun K hK => ?_)
         go_simp; refine hK _ _ ?_; clear hK K; try simp only [Act.put, zS]
         refine zR 5 rfl (fun K hK => ?_)
         go_simp; refine hK _ _ ?_; clear hK K; try simp only [Act.put, zS]
         refine zR 8 rfl (fun K hK => ?_)
         go_simp; refine hK _ _ ?_; clear hK K; try simp only [Act.put, zS]
         refine zR 9 rfl (fun K hK => ?_)
         go_simp; refine hK _ _ ?_; clear hK K; try simp only [Act.put, zS]
         refine zR 10 rfl (fun K hK => ?_)
         go_simp; refine hK _ _ ?_; clear hK K; try simp only [Act.put, zS]
         refine wpAnyIn_done (by kernel_rfl) ?_ _
         gi_wp2_with fail
         gi_meet
         exact ⟨rfl, hd⟩
      ·go_simp; refine hK _ _ ?_; clear hK K; try simp only [Act.put, zS]
       refine wpAnyIn_ready (rs := [3, 6, 7]) (by kernel_rfl) (by simp) (AllReadyIn.cons rfl (fun K hK => ?_) (AllReadyIn.cons rfl (fun K hK => ?_) (AllReadyIn.cons rfl (fun K hK => ?_) AllReadyIn.nil)))
       ·go_simp; refine hK _ _ ?_; clear hK K; try simp only [Act.put, zS]
        refine wpAnyIn_ready (rs := [5, 6, 7]) (by kernel_rfl) (by simp) (AllReadyIn.cons rfl (fun K hK => ?_) (AllReadyIn.cons rfl (fun K hK => ?_) (AllReadyIn.cons rfl (fun K hK => ?_) AllReadyIn.nil)))
        ·go_simp; refine hK _ _ ?_; clear hK K; try simp only [Act.put, zS]
         refine wpAnyIn_ready (rs := [6, 7]) (by kernel_rfl) (by simp) (AllReadyIn.cons rfl (fun K hK => ?_) (AllReadyIn.cons rfl (fun K hK => ?_) AllReadyIn.nil))
         ·go_simp; refine hK _ _ ?_; clear hK K; try simp only [Act.put, zS]
          refine zR 7 rfl (fun K hK => ?_)
          go_simp; refine hK _ _ ?_; clear hK K; try simp only [Act.put, zS]
          refine zR 8 rfl (fun K hK => ?_)
          go_simp; refine hK _ _ ?_; clear hK K; try simp only [Act.put, zS]
          refine zR 9 rfl (fun K hK => ?_)
          go_simp; refine hK _ _ ?_; clear hK K; try simp only [Act.put, zS]
          refine zR 10 rfl (fun K hK => ?_)
          go_simp; refine hK _ _ ?_; clear hK K; try simp only [Act.put, zS]
          refine wpAnyIn_done (by kernel_rfl) ?_ _
          gi_wp2_with fail
          gi_meet
          exact ⟨rfl, hd⟩
         ·go_simp; refine hK _ _ ?_; clear hK K; try simp only [Act.put, zS]
          refine zR 6 rfl (fun K hK => ?_)
          go_simp; refine hK _ _ ?_; clear hK K; try simp only [Act.put, zS]
          refine zR 8 rfl (fun K hK => ?_)
          go_simp; refine hK _ _ ?_; clear hK K; try simp only [Act.put, zS]
          refine zR 9 rfl (fun K hK => ?_)
          go_simp; refine hK _ _ ?_; clear hK K; try simp only [Act.put, zS]
          refine zR 10 rfl (fun K hK => ?_)
          go_simp; refine hK _ _ ?_; clear hK K; try simp only [Act.put, zS]
          refine wpAnyIn_done (by kernel_rfl) ?_ _
          gi_wp2_with fail
          gi_meet
          exact ⟨rfl, hd⟩
        ·go_simp; refine hK _ _ ?_; clear hK K; try simp only [Act.put, zS]
         refine wpAnyIn_ready (rs := [5, 7]) (by kernel_rfl) (by simp) (AllReadyIn.cons rfl (fun K hK => ?_) (AllReadyIn.cons rfl (fun K hK => ?_) AllReadyIn.nil))
         ·go_simp; refine hK _ _ ?_; clear hK K; try simp only [Act.put, zS]
          refine zR 7 rfl (fun K hK => ?_)
          go_simp; refine hK _ _ ?_; clear hK K; try simp only [Act.put, zS]
          refine zR 8 rfl (fun K hK => ?_)
          go_simp; refine hK _ _ ?_; clear hK K; try simp only [Act.put, zS]
          refine zR 9 rfl (fun K hK => ?_)
          go_simp; refine hK _ _ ?_; clear hK K; try simp only [Act.put, zS]
          refine zR 10 rfl (fun K hK => ?_)
          go_simp; refine hK _ _ ?_; clear hK K; try simp only [Act.put, zS]
          refine wpAnyIn_done (by kernel_rfl) ?_ _
          gi_wp2_with fail
          gi_meet
          exact ⟨rfl, hd⟩
         ·go_simp; refine hK _ _ ?_; clear hK K; try simp only [Act.put, zS]
          refine zR 5 rfl (fun K hK => ?_)
          go_simp; refine hK _ _ ?_; clear hK K; try simp only [Act.put, zS]
          refine zR 8 rfl (fun K hK => ?_)
          go_simp; refine hK _ _ ?_; clear hK K; try simp only [Act.put, zS]
          refine zR 9 rfl (fun K hK => ?_)
          go_simp; refine hK _ _ ?_; clear hK K; try simp only [Act.put, zS]
          refine zR 10 rfl (fun K hK => ?_)
          go_simp; refine hK _ _ ?_; clear hK K; try simp only [Act.put, zS]
          refine wpAnyIn_done (by kernel_rfl) ?_ _
          gi_wp2_with fail
          gi_meet
          exact ⟨rfl, hd⟩
        ·go_simp; refine hK _ _ ?_; clear hK K; try simp only [Act.put, zS]
         refine wpAnyIn_ready (rs := [5, 6]) (by kernel_rfl) (by simp) (AllReadyIn.cons rfl (fun K hK => ?_) (AllReadyIn.cons rfl (fun K hK => ?_) AllReadyIn.nil))
         ·go_simp; refine hK _ _ ?_; clear hK K; try simp only [Act.put, zS]
          refine zR 6 rfl (fun K hK => ?_)
          go_simp; refine hK _ _ ?_; clear hK K; try simp only [Act.put, zS]
          refine zR 8 rfl (fun K hK => ?_)
          go_simp; refine hK _ _ ?_; clear hK K; try simp only [Act.put, zS]
          refine zR 9 rfl (fun K hK => ?_)
          go_simp; refine hK _ _ ?_; clear hK K; try simp only [Act.put, zS]
          refine zR 10 rfl (fun K hK => ?_)
          go_simp; refine hK _ _ ?_; clear hK K; try simp only [Act.put, zS]
          refine wpAnyIn_done (by kernel_rfl) ?_ _
          gi_wp2_with fail
          gi_meet
          exact ⟨rfl, hd⟩
         ·go_simp; refine hK _ _ ?_; clear hK K; try simp only [Act.put, zS]
          refine zR 5 rfl (fun K hK => ?_)
          go_simp; refine hK _ _ ?_; clear hK K; try simp only [Act.put, zS]
          refine zR 8 rfl (fun K hK => ?_)
          go_simp; refine hK _ _ ?_; clear hK K; try simp only [Act.put, zS]
          refine zR 9 rfl (fun K hK => ?_)
          go_simp; refine hK _ _ ?_; clear hK K; try simp only [Act.put, zS]
          refine zR 10 rfl (fun K hK => ?_)
          go_simp; refine hK _ _ ?_; clear hK K; try simp only [Act.put, zS]
          refine wpAnyIn_done (by kernel_rfl) ?_ _
          gi_wp2_with fail
          gi_meet
          exact ⟨rfl, hd⟩
       ·go_simp; refine hK _ _ ?_; clear hK K; try simp only [Act.put, zS]
        refine wpAnyIn_ready (rs := [3, 7]) (by kernel_rfl) (by simp) (AllReadyIn.cons rfl (fun K hK => ?_) (AllReadyIn.cons rfl (fun K hK => ?_) AllReadyIn.nil))
        ·go_simp; refine hK _ _ ?_; clear hK K; try simp only [Act.put, zS]
         refine wpAnyIn_ready (rs := [5, 7]) (by kernel_rfl) (by simp) (AllReadyIn.cons rfl (fun K hK => ?_) (AllReadyIn.cons rfl (fun K hK => ?_) AllReadyIn.nil))
         ·go_simp; refine hK _ _ ?_; clear hK K; try simp only [Act.put, zS]
          refine zR 7 rfl (fun K hK => ?_)
          go_simp; refine hK _ _ ?_; clear hK K; try simp only [Act.put, zS]
          refine zR 8 rfl (fun K hK => ?_)
          go_simp; refine hK _ _ ?_; clear hK K; try simp only [Act.put, zS]
          refine zR 9 rfl (fun K hK => ?_)
          go_simp; refine hK _ _ ?_; clear hK K; try simp only [Act.put, zS]
          refine zR 10 rfl (fun K hK => ?_)
          go_simp; refine hK _ _ ?_; clear hK K; try simp only [Act.put, zS]
          refine wpAnyIn_done (by kernel_rfl) ?_ _
          gi_wp2_with fail
          gi_meet
          exact ⟨rfl, hd⟩
         ·go_simp; refine hK _ _ ?_; clear hK K; try simp only [Act.put, zS]
          refine zR 5 rfl (fun K hK => ?_)
          go_simp; refine hK _ _ ?_; clear hK K; try simp only [Act.put, zS]
          refine zR 8 rfl (fun K hK => ?_)
          go_simp; refine hK _ _ ?_; clear hK K; try simp only [Act.put, zS]
          refine zR 9 rfl (fun K hK => ?_)
          go_simp; refine hK _ _ ?_; clear hK K; try simp only [Act.put, zS]
          refine zR 10 rfl (fun K hK => ?_)
          go_simp; refine hK _ _ ?_; clear hK K; try simp only [Act.put, zS]
          refine wpAnyIn_done (by kernel_rfl) ?_ _
          gi_wp2_with fail
          gi_meet
          exact ⟨rfl, hd⟩
        ·go_simp; refine hK _ _ ?_; clear hK K; try simp only [Act.put, zS]
         refine zR 3 rfl (fun K hK => ?_)
         go_simp; refine hK _ _ ?_; clear hK K; try simp only [Act.put, zS]
         refine zR 5 rfl (fun K hK => ?_)
         go_simp; refine hK _ _ ?_; clear hK K; try simp only [Act.put, zS]
         refine zR 8 rfl (fun K hK => ?_)
         go_simp; refine hK _ _ ?_; clear hK K; try simp only [Act.put, zS]
         refine zR 9 rfl (fun K hK => ?_)
         go_simp; refine hK _ _ ?_; clear hK K; try simp only [Act.put, zS]
         refine zR 10 rfl (fun K hK => ?_)
         go_simp; refine hK _ _ ?_; clear hK K; try simp only [Act.put, zS]
         refine wpAnyIn_done (by kernel_rfl) ?_ _
         gi_wp2_with fail
         gi_meet
         exact ⟨rfl, hd⟩
       ·go_simp; refine hK _ _ ?_; clear hK K; try simp only [Act.put, zS]
        refine wpAnyIn_ready (rs := [3, 6]) (by kernel_rfl) (by simp) (AllReadyIn.cons rfl (fun K hK => ?_) (AllReadyIn.cons rfl (fun K hK => ?_) AllReadyIn.nil))
        ·go_simp; refine hK _ _ ?_; clear hK K; try simp only [Act.put, zS]
         refine wpAnyIn_ready (rs := [5, 6]) (by kernel_rfl) (by simp) (AllReadyIn.cons rfl (fun K hK => ?_) (AllReadyIn.cons rfl (fun K hK => ?_) AllReadyIn.nil))
         ·go_simp; refine hK _ _ ?_; clear hK K; try simp only [Act.put, zS]
          refine zR 6 rfl (fun K hK => ?_)
          go_simp; refine hK _ _ ?_; clear hK K; try simp only [Act.put, zS]
          refine zR 8 rfl (fun K hK => ?_)
          go_simp; refine hK _ _ ?_; clear hK K; try simp only [Act.put, zS]
          refine zR 9 rfl (fun K hK => ?_)
          go_simp; refine hK _ _ ?_; clear hK K; try simp only [Act.put, zS]
          refine zR 10 rfl (fun K hK => ?_)
          go_simp; refine hK _ _ ?_; clear hK K; try simp only [Act.put, zS]
          refine wpAnyIn_done (by kernel_rfl) ?_ _
          gi_wp2_with fail
          gi_meet
          exact ⟨rfl, hd⟩
         ·go_simp; refine hK _ _ ?_; clear hK K; try simp only [Act.put, zS]
          refine zR 5 rfl (fun K hK => ?_)
          go_simp; refine hK _ _ ?_; clear hK K; try simp only [Act.put, zS]
          refine zR 8 rfl (fun K hK => ?_)
          go_simp; refine hK _ _ ?_; clear hK K; try simp only [Act.put, zS]
          refine zR 9 rfl (fun K hK => ?_)
          go_simp; refine hK _ _ ?_; clear hK K; try simp only [Act.put, zS]
          refine zR 10 rfl (fun K hK => ?_)
          go_simp; refine hK _ _ ?_; clear hK K; try simp only [Act.put, zS]
          refine wpAnyIn_done (by kernel_rfl) ?_ _
          gi_wp2_with fail
          gi_meet
          exact ⟨rfl, hd⟩
        ·go_simp; refine hK _ _ ?_; clear hK K; try simp only [Act.put, zS]
         refine zR 3 rfl (fun K hK => ?_)
         go_simp; refine hK _ _ ?_; clear hK K; try simp only [Act.put, zS]
         refine zR 5 rfl (fun K hK => ?_)
         go_simp; refine hK _ _ ?_; clear hK K; try simp only [Act.put, zS]
         refine zR 8 rfl (fun K hK => ?_)
         go_simp; refine hK _ _ ?_; clear hK K; try simp only [Act.put, zS]
         refine zR 9 rfl (fun K hK => ?_)
         go_simp; refine hK _ _ ?_; clear hK K; try simp only [Act.put, zS]
         refine zR 10 rfl (fun K hK => ?_)
         go_simp; refine hK _ _ ?_; clear hK K; try simp only [Act.put, zS]
         refine wpAnyIn_done (by kernel_rfl) ?_ _
         gi_wp2_with fail
         gi_meet
         exact ⟨rfl, hd⟩
      ·go_simp; refine hK _ _ ?_; clear hK K; try simp only [Act.put, zS]
       refine wpAnyIn_ready (rs := [3, 4, 7]) (by kernel_rfl) (by simp) (AllReadyIn.cons rfl (fun K hK => ?_) (AllReadyIn.cons rfl (fun K hK => ?_) (AllReadyIn.cons rfl (fun K hK => ?_) AllReadyIn.nil)))
       ·go_simp; refine hK _ _ ?_; clear hK K; try simp only [Act.put, zS]
        refine wpAnyIn_ready (rs := [4, 7]) (by kernel_rfl) (by simp) (AllReadyIn.cons rfl (fun K hK => ?_) (AllReadyIn.cons rfl (fun K hK => ?_) AllReadyIn.nil))
        ·go_simp; refine hK _ _ ?_; clear hK K; try simp only [Act.put, zS]
         refine wpAnyIn_ready (rs := [5, 7]) (by kernel_rfl) (by simp) (AllReadyIn.cons rfl (fun K hK => ?_) (AllReadyIn.cons rfl (fun K hK => ?_) AllReadyIn.nil))
         ·go_simp; refine hK _ _ ?_; clear hK K; try simp only [Act.put, zS]
          refine zR 7 rfl (fun K hK => ?_)
          go_simp; refine hK _ _ ?_; clear hK K; try simp only [Act.put, zS]
          refine zR 8 rfl (fun K hK => ?_)
          go_simp; refine hK _ _ ?_; clear hK K; try simp only [Act.put, zS]
          refine zR 9 rfl (fun K hK => ?_)
          go_simp; refine hK _ _ ?_; clear hK K; try simp only [Act.put, zS]
          refine zR 10 rfl (fun K hK => ?_)
          go_simp; refine hK _ _ ?_; clear hK K; try simp only [Act.put, zS]
          refine wpAnyIn_done (by kernel_rfl) ?_ _
          gi_wp2_with fail
          gi_meet
          exact ⟨rfl, hd⟩
         ·go_simp; refine hK _ _ ?_; clear hK K; try simp only [Act.put, zS]
          refine zR 5 rfl (fun K hK => ?_)
          go_simp; refine hK _ _ ?_; clear hK K; try simp only [Act.put, zS]
          refine zR 8 rfl (fun K hK => ?_)
          go_simp; refine hK _ _ ?_; clear hK K; try simp only [Act.put, zS]
          refine zR 9 rfl (fun K hK => ?_)
          go_simp; refine hK _ _ ?_; clear hK K; try simp only [Act.put, zS]
          refine zR 10 rfl (fun K hK => ?_)
          go_simp; refine hK _ _ ?_; clear hK K; try simp only [Act.put, zS]
          refine wpAnyIn_done (by kernel_rfl) ?_ _
          gi_wp2_with fail
          gi_meet
          exact ⟨rfl, hd⟩
        ·go_simp; refine hK _ _ ?_; clear hK K; try simp only [Act.put, zS]
         refine zR 4 rfl (fun K hK => ?_)
         go_simp; refine hK _ _ ?_; clear hK K; try simp only [Act.put, zS]
         refine zR 5 rfl (fun K hK => ?_)
         go_simp; refine hK _ _ ?_; clear hK K; try simp only [Act.put, zS]
         refine zR 8 rfl (fun K hK => ?_)
         go_simp; refine hK _ _ ?_; clear hK K; try simp only [Act.put, zS]
         refine zR 9 rfl (fun K hK => ?_)
         go_simp; refine hK _ _ ?_; clear hK K; try simp only [Act.put, zS]
         refine zR 10 rfl (fun K hK => ?_)
         go_simp; refine hK _ _ ?_; clear hK K; try simp only [Act.put, zS]
         refine wpAnyIn_done (by kernel_rfl) ?_ _
         gi_wp2_with fail
         gi_meet
         exact ⟨rfl, hd⟩
       ·go_simp; refine hK _ _ ?_; clear hK K; try simp only [Act.put, zS]
        refine wpAnyIn_ready (rs := [3, 7]) (by kernel_rfl) (by simp) (AllReadyIn.cons rfl (fun K hK => ?_) (AllReadyIn.cons rfl (fun K hK => ?_) AllReadyIn.nil))
        ·go_simp; refine hK _ _ ?_; clear hK K; try simp only [Act.put, zS]
         refine wpAnyIn_ready (rs := [5, 7]) (by kernel_rfl) (by simp) (AllReadyIn.cons rfl (fun K hK => ?_) (AllReadyIn.cons rfl (fun K hK => ?_) AllReadyIn.nil))
         ·go_simp; refine hK _ _ ?_; clear hK K; try simp only [Act.put, zS]
          refine zR 7 rfl (fun K hK => ?_)
          go_simp; refine hK _ _ ?_; clear hK K; try simp only [Act.put, zS]
          refine zR 8 rfl (fun K hK => ?_)
          go_simp; refine hK _ _ ?_; clear hK K; try simp only [Act.put, zS]
          refine zR 9 rfl (fun K hK => ?_)
          go_simp; refine hK _ _ ?_; clear hK K; try simp only [Act.put, zS]
          refine zR 10 rfl (fun K hK => ?_)
          go_simp; refine hK _ _ ?_; clear hK K; try simp only [Act.put, zS]
          refine wpAnyIn_done (by kernel_rfl) ?_ _
          gi_wp2_with fail
          gi_meet
          exact ⟨rfl, hd⟩
         ·go_simp; refine hK _ _ ?_; clear hK K; try simp only [Act.put, zS]
          refine zR 5 rfl (fun K hK => ?_)
          go_simp; refine hK _ _ ?_; clear hK K; try simp only [Act.put, zS]
          refine zR 8 rfl (fun K hK => ?_)
          go_simp; refine hK _ _ ?_; clear hK K; try simp only [Act.put, zS]
          refine zR 9 rfl (fun K hK => ?_)
          go_simp; refine hK _ _ ?_; clear hK K; try simp only [Act.put, zS]
          refine zR 10 rfl (fun K hK => ?_)
          go_simp; refine hK _ _ ?_; clear hK K; try simp only [Act.put, zS]
          refine wpAnyIn_done (by kernel_rfl) ?_ _
          gi_wp2_with fail
          gi_meet
          exact ⟨rfl, hd⟩
        ·go_simp; refine hK _ _ ?_; clear hK K; try simp only [Act.put, zS]
         refine zR 3 rfl (fun K hK => ?_)
         go_simp; refine hK _ _ ?_; clear hK K; try simp only [Act.put, zS]
         refine zR 5 rfl (fun K hK => ?_)
         go_simp; refine hK _ _ ?_; clear hK K; try simp only [Act.put, zS]
         refine zR 8 rfl (fun K hK => ?_)
         go_simp; refine hK _ _ ?_; clear hK K; try simp only [Act.put, zS]
         refine zR 9 rfl (fun K hK => ?_)
         go_simp; refine hK _ _ ?_; clear hK K; try simp only [Act.put, zS]
         refine zR 10 rfl (fun K hK => ?_)
         go_simp; refine hK _ _ ?_; clear hK K; try simp only [Act.put, zS]
         refine wpAnyIn_done (by kernel_rfl) ?_ _
         gi_wp2_with fail
         gi_meet
         exact ⟨rfl, hd⟩
       ·go_simp; refine hK _ _ ?_; clear hK K; try simp only [Act.put, zS]
        refine wpAnyIn_ready (rs := [3, 4]) (by kernel_rfl) (by simp) (AllReadyIn.cons rfl (fun K hK => ?_) (AllReadyIn.cons rfl (fun K hK => ?_) AllReadyIn.nil))
        ·go_simp; refine hK _ _ ?_; clear hK K; try simp only [Act.put, zS]
         refine zR 4 rfl (fun K hK => ?_)
         go_simp; refine hK _ _ ?_; clear hK K; try simp only [Act.put, zS]
         refine zR 5 rfl (fun K hK => ?_)
         go_simp; refine hK _ _ ?_; clear hK K; try simp only [Act.put, zS]
         refine zR 8 rfl (fun K hK => ?_)
         go_simp; refine hK _ _ ?_; clear hK K; try simp only [Act.put, zS]
         refine zR 9 rfl (fun K hK => ?_)
         go_simp; refine hK _ _ ?_; clear hK K; try simp only [Act.put, zS]
         refine zR 10 rfl (fun K hK => ?_)
         go_simp; refine hK _ _ ?_; clear hK K; try simp only [Act.put, zS]
         refine wpAnyIn_done (by kernel_rfl) ?_ _
         gi_wp2_with fail
         gi_meet
         exact ⟨rfl, hd⟩
        ·go_simp; refine hK _ _ ?_; clear hK K; try simp only [Act.put, zS]
         refine zR 3 rfl (fun K hK => ?_)
         go_simp; refine hK _ _ ?_; clear hK K; try simp only [Act.put, zS]
         refine zR 5 rfl (fun K hK => ?_)
         go_simp; refine hK _ _ ?_; clear hK K; try simp only [Act.put, zS]
         refine zR 8 rfl (fun K hK => ?_)
         go_simp; refine hK _ _ ?_; clear hK K; try simp only [Act.put, zS]
         refine zR 9 rfl (fun K hK => ?_)
         go_simp; refine hK _ _ ?_; clear hK K; try simp only [Act.put, zS]
         refine zR 10 rfl (fun K hK => ?_)
         go_simp; refine hK _ _ ?_; clear hK K; try simp only [Act.put, zS]
         refine wpAnyIn_done (by kernel_rfl) ?_ _
         gi_wp2_with fail
         gi_meet
         exact ⟨rfl, hd⟩
      ·go_simp; refine hK _ _ ?_; clear hK K; try simp only [Act.put, zS]
       refine wpAnyIn_ready (rs := [3, 4, 6]) (by kernel_rfl) (by simp) (AllReadyIn.cons rfl (fun K hK => ?_) (AllReadyIn.cons rfl (fun K hK => ?_) (AllReadyIn.cons rfl (fun K hK => ?_) AllReadyIn.nil)))
       ·go_simp; refine hK _ _ ?_; clear hK K; try simp only [Act.put, zS]
        refine wpAnyIn_ready (rs := [4, 6]) (by kernel_rfl) (by simp) (AllReadyIn.cons rfl (fun K hK => ?_) (AllReadyIn.cons rfl (fun K hK => ?_) AllReadyIn.nil))
        ·go_simp; refine hK _ _ ?_; clear hK K; try simp only [Act.put, zS]
         refine wpAnyIn_ready (rs := [5, 6]) (by kernel_rfl) (by simp) (AllReadyIn.cons rfl (fun K hK => ?_) (AllReadyIn.cons rfl (fun K hK => ?_) AllReadyIn.nil))
         ·go_simp; refine hK _ _ ?_; clear hK K; try simp only [Act.put, zS]
          refine zR 6 rfl (fun K hK => ?_)
          go_simp; refine hK _ _ ?_; clear hK K; try simp only [Act.put, zS]
          refine zR 8 rfl (fun K hK => ?_)
          go_simp; refine hK _ _ ?_; clear hK K; try simp only [Act.put, zS]
          refine zR 9 rfl (fun K hK => ?_)
          go_simp; refine hK _ _ ?_; clear hK K; try simp only [Act.put, zS]
          refine zR 10 rfl (fun K hK => ?_)
          go_simp; refine hK _ _ ?_; clear hK K; try simp only [Act.put, zS]
          refine wpAnyIn_done (by kernel_rfl) ?_ _
          gi_wp2_with fail
          gi_meet
          exact ⟨rfl, hd⟩
         ·go_simp; refine hK _ _ ?_; clear hK K; try simp only [Act.put, zS]
          refine zR 5 rfl (fun K hK => ?_)
          go_simp; refine hK _ _ ?_; clear hK K; try simp only [Act.put, zS]
          refine zR 8 rfl (fun K hK => ?_)
          go_simp; refine hK _ _ ?_; clear hK K; try simp only [Act.put, zS]
          refine zR 9 rfl (fun K hK => ?_)
          go_simp; refine hK _ _ ?_; clear hK K; try simp only [Act.put, zS]
          refine zR 10 rfl (fun K hK => ?_)
          go_simp; refine hK _ _ ?_; clear hK K; try simp only [Act.put, zS]
          refine wpAnyIn_done (by kernel_rfl) ?_ _
          gi_wp2_with fail
          gi_meet
          exact ⟨rfl, hd⟩
        ·go_simp; refine hK _ _ ?_; clear hK K; try simp only [Act.put, zS]
         refine zR 4 rfl (fun K hK => ?_)
         go_simp; refine hK _ _ ?_; clear hK K; try simp only [Act.put, zS]
         refine zR 5 rfl (fun K hK => ?_)
         go_simp; refine hK _ _ ?_; clear hK K; try simp only [Act.put, zS]
         refine zR 8 rfl (fun K hK => ?_)
         go_simp; refine hK _ _ ?_; clear hK K; try simp only [Act.put, zS]
         refine zR 9 rfl (fun K hK => ?_)
         go_simp; refine hK _ _ ?_; clear hK K; try simp only [Act.put, zS]
         refine zR 10 rfl (fun K hK => ?_)
         go_simp; refine hK _ _ ?_; clear hK K; try simp only [Act.put, zS]
         refine wpAnyIn_done (by kernel_rfl) ?_ _
         gi_wp2_with fail
         gi_meet
         exact ⟨rfl, hd⟩
       ·go_simp; refine hK _ _ ?_; clear hK K; try simp only [Act.put, zS]
        refine wpAnyIn_ready (rs := [3, 6]) (by kernel_rfl) (by simp) (AllReadyIn.cons rfl (fun K hK => ?_) (AllReadyIn.cons rfl (fun K hK => ?_) AllReadyIn.nil))
        ·go_simp; refine hK _ _ ?_; clear hK K; try simp only [Act.put, zS]
         refine wpAnyIn_ready (rs := [5, 6]) (by kernel_rfl) (by simp) (AllReadyIn.cons rfl (fun K hK => ?_) (AllReadyIn.cons rfl (fun K hK => ?_) AllReadyIn.nil))
         ·go_simp; refine hK _ _ ?_; clear hK K; try simp only [Act.put, zS]
          refine zR 6 rfl (fun K hK => ?_)
          go_simp; refine hK _ _ ?_; clear hK K; try simp only [Act.put, zS]
          refine zR 8 rfl (fun K hK => ?_)
          go_simp; refine hK _ _ ?_; clear hK K; try simp only [Act.put, zS]
          refine zR 9 rfl (fun K hK => ?_)
          go_simp; refine hK _ _ ?_; clear hK K; try simp only [Act.put, zS]
          refine zR 10 rfl (fun K hK => ?_)
          go_simp; refine hK _ _ ?_; clear hK K; try simp only [Act.put, zS]
          refine wpAnyIn_done (by kernel_rfl) ?_ _
          gi_wp2_with fail
          gi_meet
          exact ⟨rfl, hd⟩
         ·go_simp; refine hK _ _ ?_; clear hK K; try simp only [Act.put, zS]
          refine zR 5 rfl (fun K hK => ?_)
          go_simp; refine hK _ _ ?_; clear hK K; try simp only [Act.put, zS]
          refine zR 8 rfl (fun K hK => ?_)
          go_simp; refine hK _ _ ?_; clear hK K; try simp only [Act.put, zS]
          refine zR 9 rfl (fun K hK => ?_)
          go_simp; refine hK _ _ ?_; clear hK K; try simp only [Act.put, zS]
          refine zR 10 rfl (fun K hK => ?_)
          go_simp; refine hK _ _ ?_; clear hK K; try simp only [Act.put, zS]
          refine wpAnyIn_done (by kernel_rfl) ?_ _
          gi_wp2_with fail
          gi_meet
          exact ⟨rfl, hd⟩
        ·go_simp; refine hK _ _ ?_; clear hK K; try simp only [Act.put, zS]
         refine zR 3 rfl (fun K hK => ?_)
         go_simp; refine hK _ _ ?_; clear hK K; try simp only [Act.put, zS]
         refine zR 5 rfl (fun K hK => ?_)
         go_simp; refine hK _ _ ?_; clear hK K; try simp only [Act.put, zS]
         refine zR 8 rfl (fun K hK => ?_)
         go_simp; refine hK _ _ ?_; clear hK K; try simp only [Act.put, zS]
         refine zR 9 rfl (fun K hK => ?_)
         go_simp; refine hK _ _ ?_; clear hK K; try simp only [Act.put, zS]
         refine zR 10 rfl (fun K hK => ?_)
         go_simp; refine hK _ _ ?_; clear hK K; try simp only [Act.put, zS]
         refine wpAnyIn_done (by kernel_rfl) ?_ _
         gi_wp2_with fail
         gi_meet
         exact ⟨rfl, hd⟩
       ·go_simp; refine hK _ _ ?_; clear hK K; try simp only [Act.put, zS]
        refine wpAnyIn_ready (rs := [3, 4]) (by kernel_rfl) (by simp) (AllReadyIn.cons rfl (fun K hK => ?_) (AllReadyIn.cons rfl (fun K hK => ?_) AllReadyIn.nil))
        ·go_simp; refine hK _ _ ?_; clear hK K; try simp only [Act.put, zS]
         refine zR 4 rfl (fun K hK => ?_)
         go_simp; refine hK _ _ ?_; clear hK K; try simp only [Act.put, zS]
         refine zR 5 rfl (fun K hK => ?_)
         go_simp; refine hK _ _ ?_; clear hK K; try simp only [Act.put, zS]
         refine zR 8 rfl (fun K hK => ?_)
         go_simp; refine hK _ _ ?_; clear hK K; try simp only [Act.put, zS]
         refine zR 9 rfl (fun K hK => ?_)
         go_simp; refine hK _ _ ?_; clear hK K; try simp only [Act.put, zS]
         refine zR 10 rfl (fun K hK => ?_)
         go_simp; refine hK _ _ ?_; clear hK K; try simp only [Act.put, zS]
         refine wpAnyIn_done (by kernel_rfl) ?_ _
         gi_wp2_with fail
         gi_meet
         exact ⟨rfl, hd⟩
        ·go_simp; refine hK _ _ ?_; clear hK K; try simp only [Act.put, zS]
         refine zR 3 rfl (fun K hK => ?_)
         go_simp; refine hK _ _ ?_; clear hK K; try simp only [Act.put, zS]
         refine zR 5 rfl (fun K hK => ?_)
         go_simp; refine hK _ _ ?_; clear hK K; try simp only [Act.put, zS]
         refine zR 8 rfl (fun K hK => ?_)
         go_simp; refine hK _ _ ?_; clear hK K; try simp only [Act.put, zS]
         refine zR 9 rfl (fun K hK => ?_)
         go_simp; refine hK _ _ ?_; clear hK K; try simp only [Act.put, zS]
         refine zR 10 rfl (fun K hK => ?_)
         go_simp; refine hK _ _ ?_; clear hK K; try simp only [Act.put, zS]
         refine wpAnyIn_done (by kernel_rfl) ?_ _
         gi_wp2_with fail
         gi_meet
         exact ⟨rfl, hd⟩
    | some y =>
      have hcnd : decide (costL os xl < costL os y) = cnd := HCND.out.symm
      have hyl := HYL.out y rfl
      have c9 := (Blk.carry j2 hd).cell (j := 0) (v := .bool true) rfl
      have c8 := (Blk.carry j1 hd).cell (j := 0) (v := .slice ya y.length yc) rfl
      have c3 := (Blk.carry i3 hd).cell (j := 0) (v := .slice oa NO oc) rfl
      have HX := Lib.hid (hx.ints.carry hd)
      have HV := Lib.hid (hvb.ints.carry hd)
      have HB9 := Lib.hid (hBW.trans (hd.mono hBW.size))
      obtain ⟨q1, hq1⟩ : ∃ q, q = costL os xl := ⟨_, rfl⟩
      obtain ⟨q2, hq2⟩ : ∃ q, q = costL os y := ⟨_, rfl⟩
      have T1 := Lib.hid (TC.out xl (.slice xa xl.length xc) W.drew (HO.out.carry HB9.out) HX.out hxl)
      have T2 := Lib.hid (fun W' (h : Below W.drew.heap.size W.drew W') => TC.out y (.slice ya y.length yc) W' (HO.out.carry (HB9.out.trans (h.mono HB9.out.size))) (HV.out.carry h) hyl)
      rw [← hq1] at T1 hcnd
      rw [← hq2] at T2 hcnd
      simp only [Option.getD_some, Option.isSome_some] at *
      clear j1 j2 i3 hvb hx hq1 hq2
      refine wpIn_region_any (by kernel_rfl) ?_
      (try (change wpAnyIn _ _ _ _ _ _ _ _ _ (World.drew _)))
      refine zR 0 rfl (fun K hK => ?_)
      go_simp; refine hK _ _ ?_; clear hK K; try simp only [Act.put, zS]
      refine zR 1 rfl (fun K hK => ?_)
      go_simp; refine hK _ _ ?_; clear hK K; try simp only [Act.put, zS]
      refine zR 2 rfl (fun K hK => ?_)
      go_simp; refine hK _ _ ?_; clear hK K; try simp only [Act.put, zS]
      refine wpAnyIn_ready (rs := [3, 4, 6, 7]) (by kernel_rfl) (by simp) (AllReadyIn.cons rfl (fun K hK => ?_) (AllReadyIn.cons rfl (fun K hK => ?_) (AllReadyIn.cons rfl (fun K hK => ?_) (AllReadyIn.cons rfl (fun K hK => ?_) AllReadyIn.nil))))
      ·go_simp; refine hK _ _ ?_; clear hK K; try simp only [Act.put, zS]
       refine wpAnyIn_ready (rs := [4, 6, 7]) (by kernel_rfl) (by simp) (AllReadyIn.cons rfl (fun K hK => ?_) (AllReadyIn.cons rfl (fun K hK => ?_) (AllReadyIn.cons rfl (fun K hK => ?_) AllReadyIn.nil)))
       ·go_simp; refine hK _ _ ?_; clear hK K; try simp only [Act.put, zS]
        refine wpAnyIn_ready (rs := [5, 6, 7]) (by kernel_rfl) (by simp) (AllReadyIn.cons rfl (fun K hK => ?_) (AllReadyIn.cons rfl (fun K hK => ?_) (AllReadyIn.cons rfl (fun K hK => ?_) AllReadyIn.nil)))
        ·go_simp; refine (((callsIn_wide (n := 2)).2 T1.out).inRound ll).mono ?_; rintro e w5 ⟨rfl, hb5⟩; have c3 := cellb c3 hb5; have c8 := cellb c8 hb5; refine hK _ _ ?_; clear hK K; try simp only [Act.put, zS]
         refine wpAnyIn_ready (rs := [6, 7]) (by kernel_rfl) (by simp) (AllReadyIn.cons rfl (fun K hK => ?_) (AllReadyIn.cons rfl (fun K hK => ?_) AllReadyIn.nil))
         ·go_simp; refine hK _ _ ?_; clear hK K; try simp only [Act.put, zS]
          refine zR 7 rfl (fun K hK => ?_)
          go_simp; refine hK _ _ ?_; clear hK K; try simp only [Act.put, zS]
          refine zR 8 rfl (fun K hK => ?_)
          go_simp; refine (((callsIn_wide (n := 2)).2 (T2.out w5 hb5)).inRound ll).mono ?_; rintro e w8 ⟨rfl, hb8⟩; refine hK _ _ ?_; clear hK K; try simp only [Act.put, zS]
          refine zR 9 rfl (fun K hK => ?_)
          go_simp; refine hK _ _ ?_; clear hK K; try simp only [Act.put, zS]
          refine zR 10 rfl (fun K hK => ?_)
          go_simp; refine hK _ _ ?_; clear hK K; try simp only [Act.put, zS]
          refine wpAnyIn_done (by kernel_rfl) ?_ _
          gi_wp2_with fail
          gi_meet
          exact ⟨rfl, bthen (bthen hd hb5) hb8⟩
         ·go_simp; refine hK _ _ ?_; clear hK K; try simp only [Act.put, zS]
          refine zR 6 rfl (fun K hK => ?_)
          go_simp; refine hK _ _ ?_; clear hK K; try simp only [Act.put, zS]
          refine zR 8 rfl (fun K hK => ?_)
          go_simp; refine (((callsIn_wide (n := 2)).2 (T2.out w5 hb5)).inRound ll).mono ?_; rintro e w8 ⟨rfl, hb8⟩; refine hK _ _ ?_; clear hK K; try simp only [Act.put, zS]
          refine zR 9 rfl (fun K hK => ?_)
          go_simp; refine hK _ _ ?_; clear hK K; try simp only [Act.put, zS]
          refine zR 10 rfl (fun K hK => ?_)
          go_simp; refine hK _ _ ?_; clear hK K; try simp only [Act.put, zS]
          refine wpAnyIn_done (by kernel_rfl) ?_ _
          gi_wp2_with fail
          gi_meet
          exact ⟨rfl, bthen (bthen hd hb5) hb8⟩
        ·go_simp; refine hK _ _ ?_; clear hK K; try simp only [Act.put, zS]
         refine wpAnyIn_ready (rs := [5, 7]) (by kernel_rfl) (by simp) (AllReadyIn.cons rfl (fun K hK => ?_) (AllReadyIn.cons rfl (fun K hK => ?_) AllReadyIn.nil))
         ·go_simp; refine (((callsIn_wide (n := 2)).2 T1.out).inRound ll).mono ?_; rintro e w5 ⟨rfl, hb5⟩; have c3 := cellb c3 hb5; have c8 := cellb c8 hb5; refine hK _ _ ?_; clear hK K; try simp only [Act.put, zS]
          refine zR 7 rfl (fun K hK => ?_)
          go_simp; refine hK _ _ ?_; clear hK K; try simp only [Act.put, zS]
          refine zR 8 rfl (fun K hK => ?_)
          go_simp; refine (((callsIn_wide (n := 2)).2 (T2.out w5 hb5)).inRound ll).mono ?_; rintro e w8 ⟨rfl, hb8⟩; refine hK _ _ ?_; clear hK K; try simp only [Act.put, zS]
          refine zR 9 rfl (fun K hK => ?_)
          go_simp; refine hK _ _ ?_; clear hK K; try simp only [Act.put, zS]
          refine zR 10 rfl (fun K hK => ?_)
          go_simp; refine hK _ _ ?_; clear hK K; try simp only [Act.put, zS]
          refine wpAnyIn_done (by kernel_rfl) ?_ _
          gi_wp2_with fail
          gi_meet
          exact ⟨rfl, bthen (bthen hd hb5) hb8⟩
         ·go_simp; refine hK _ _ ?_; clear hK K; try simp only [Act.put, zS]
          refine zR 5 rfl (fun K hK => ?_)
          go_simp; refine (((callsIn_wide (n := 2)).2 T1.out).inRound ll).mono ?_; rintro e w5 ⟨rfl, hb5⟩; have c3 := cellb c3 hb5; have c8 := cellb c8 hb5; refine hK _ _ ?_; clear hK K; try simp only [Act.put, zS]
          refine zR 8 rfl (fun K hK => ?_)
          go_simp; refine (((callsIn_wide (n := 2)).2 (T2.out w5 hb5)).inRound ll).mono ?_; rintro e w8 ⟨rfl, hb8⟩; refine hK _ _ ?_; clear hK K; try simp only [Act.put, zS]
          refine zR 9 rfl (fun K hK => ?_)
          go_simp; refine hK _ _ ?_; clear hK K; try simp only [Act.put, zS]
          refine zR 10 rfl (fun K hK => ?_)
          go_simp; refine hK _ _ ?_; clear hK K; try simp only [Act.put, zS]
          refine wpAnyIn_done (by kernel_rfl) ?_ _
          gi_wp2_with fail
          gi_meet
          exact ⟨rfl, bthen (bthen hd hb5) hb8⟩
        ·go_simp; refine hK _ _ ?_; clear hK K; try simp only [Act.put, zS]
         refine wpAnyIn_ready (rs := [5, 6]) (by kernel_rfl) (by simp) (AllReadyIn.cons rfl (fun K hK => ?_) (AllReadyIn.cons rfl (fun K hK => ?_) AllReadyIn.nil))
         ·go_simp; refine (((callsIn_wide (n := 2)).2 T1.out).inRound ll).mono ?_; rintro e w5 ⟨rfl, hb5⟩; have c3 := cellb c3 hb5; have c8 := cellb c8 hb5; refine hK _ _ ?_; clear hK K; try simp only [Act.put, zS]
          refine zR 6 rfl (fun K hK => ?_)
          go_simp; refine hK _ _ ?_; clear hK K; try simp only [Act.put, zS]
          refine zR 8 rfl (fun K hK => ?_)
          go_simp; refine (((callsIn_wide (n := 2)).2 (T2.out w5 hb5)).inRound ll).mono ?_; rintro e w8 ⟨rfl, hb8⟩; refine hK _ _ ?_; clear hK K; try simp only [Act.put, zS]
          refine zR 9 rfl (fun K hK => ?_)
          go_simp; refine hK _ _ ?_; clear hK K; try simp only [Act.put, zS]
          refine zR 10 rfl (fun K hK => ?_)
          go_simp; refine hK _ _ ?_; clear hK K; try simp only [Act.put, zS]
          refine wpAnyIn_done (by kernel_rfl) ?_ _
          gi_wp2_with fail
          gi_meet
          exact ⟨rfl, bthen (bthen hd hb5) hb8⟩
         ·go_simp; refine hK _ _ ?_; clear hK K; try simp only [Act.put, zS]
          refine zR 5 rfl (fun K hK => ?_)
          go_simp; refine (((callsIn_wide (n := 2)).2 T1.out).inRound ll).mono ?_; rintro e w5 ⟨rfl, hb5⟩; have c3 := cellb c3 hb5; have c8 := cellb c8 hb5; refine hK _ _ ?_; clear hK K; try simp only [Act.put, zS]
          refine zR 8 rfl (fun K hK => ?_)
          go_simp; refine (((callsIn_wide (n := 2)).2 (T2.out w5 hb5)).inRound ll).mono ?_; rintro e w8 ⟨rfl, hb8⟩; refine hK _ _ ?_; clear hK K; try simp only [Act.put, zS]
          refine zR 9 rfl (fun K hK => ?_)
          go_simp; refine hK _ _ ?_; clear hK K; try simp only [Act.put, zS]
          refine zR 10 rfl (fun K hK => ?_)
          go_simp; refine hK _ _ ?_; clear hK K; try simp only [Act.put, zS]
          refine wpAnyIn_done (by kernel_rfl) ?_ _
          gi_wp2_with fail
          gi_meet
          exact ⟨rfl, bthen (bthen hd hb5) hb8⟩
       ·go_simp; refine hK _ _ ?_; clear hK K; try simp only [Act.put, zS]
        refine wpAnyIn_ready (rs := [4, 7]) (by kernel_rfl) (by simp) (AllReadyIn.cons rfl (fun K hK => ?_) (AllReadyIn.cons rfl (fun K hK => ?_) AllReadyIn.nil))
        ·go_simp; refine hK _ _ ?_; clear hK K; try simp only [Act.put, zS]
         refine wpAnyIn_ready (rs := [5, 7]) (by kernel_rfl) (by simp) (AllReadyIn.cons rfl (fun K hK => ?_) (AllReadyIn.cons rfl (fun K hK => ?_) AllReadyIn.nil))
         ·go_simp; refine (((callsIn_wide (n := 2)).2 T1.out).inRound ll).mono ?_; rintro e w5 ⟨rfl, hb5⟩; have c3 := cellb c3 hb5; have c8 := cellb c8 hb5; refine hK _ _ ?_; clear hK K; try simp only [Act.put, zS]
          refine zR 7 rfl (fun K hK => ?_)
          go_simp; refine hK _ _ ?_; clear hK K; try simp only [Act.put, zS]
          refine zR 8 rfl (fun K hK => ?_)
          go_simp; refine (((callsIn_wide (n := 2)).2 (T2.out w5 hb5)).inRound ll).mono ?_; rintro e w8 ⟨rfl, hb8⟩; refine hK _ _ ?_; clear hK K; try simp only [Act.put, zS]
          refine zR 9 rfl (fun K hK => ?_)
          go_simp; refine hK _ _ ?_; clear hK K; try simp only [Act.put, zS]
          refine zR 10 rfl (fun K hK => ?_)
          go_simp; refine hK _ _ ?_; clear hK K; try simp only [Act.put, zS]
          refine wpAnyIn_done (by kernel_rfl) ?_ _
          gi_wp2_with fail
          gi_meet
          exact ⟨rfl, bthen (bthen hd hb5) hb8⟩
         ·go_simp; refine hK _ _ ?_; clear hK K; try simp only [Act.put, zS]
          refine zR 5 rfl (fun K hK => ?_)
          go_simp; refine (((callsIn_wide (n := 2)).2 T1.out).inRound ll).mono ?_; rintro e w5 ⟨rfl, hb5⟩; have c3 := cellb c3 hb5; have c8 := cellb c8 hb5; refine hK _ _ ?_; clear hK K; try simp only [Act.put, zS]
          refine zR 8 rfl (fun K hK => ?_)
          go_simp; refine (((callsIn_wide (n := 2)).2 (T2.out w5 hb5)).inRound ll).mono ?_; rintro e w8 ⟨rfl, hb8⟩; refine hK _ _ ?_; clear hK K; try simp only [Act.put, zS]
          refine zR 9 rfl (fun K hK => ?_)
          go_simp; refine hK _ _ ?_; clear hK K; try simp only [Act.put, zS]
          refine zR 10 rfl (fun K hK => ?_)
          go_simp; refine hK _ _ ?_; clear hK K; try simp only [Act.put, zS]
          refine wpAnyIn_done (by kernel_rfl) ?_ _
          gi_wp2_with fail
          gi_meet
          exact ⟨rfl, bthen (bthen hd hb5) hb8⟩
        ·go_simp; refine hK _ _ ?_; clear hK K; try simp only [Act.put, zS]
         refine zR 4 rfl (fun K hK => ?_)
         go_simp; refine hK _ _ ?_; clear hK K; try simp only [Act.put, zS]
         refine zR 5 rfl (fun K hK => ?_)
         go_simp; refine (((callsIn_wide (n := 2)).2 T1.out).inRound ll).mono ?_; rintro e w5 ⟨rfl, hb5⟩; have c3 := cellb c3 hb5; have c8 := cellb c8 hb5; refine hK _ _ ?_; clear hK K; try simp only [Act.put, zS]
         refine zR 8 rfl (fun K hK => ?_)
         go_simp; refine (((callsIn_wide (n := 2)).2 (T2.out w5 hb5)).inRound ll).mono ?_; rintro e w8 ⟨rfl, hb8⟩; refine hK _ _ ?_; clear hK K; try simp only [Act.put, zS]
         refine zR 9 rfl (fun K hK => ?_)
         go_simp; refine hK _ _ ?_; clear hK K; try simp only [Act.put, zS]
         refine zR 10 rfl (fun K hK => ?_)
         go_simp; refine hK _ _ ?_; clear hK K; try simp only [Act.put, zS]
         refine wpAnyIn_done (by kernel_rfl) ?_ _
         gi_wp2_with fail
         gi_meet
         exact ⟨rfl, bthen (bthen hd hb5) hb8⟩
       ·go_simp; refine hK _ _ ?_; clear hK K; try simp only [Act.put, zS]
        refine wpAnyIn_ready (rs := [4, 6]) (by kernel_rfl) (by simp) (AllReadyIn.cons rfl (fun K hK => ?_) (AllReadyIn.cons rfl (fun K hK => ?_) AllReadyIn.nil))
        ·go_simp; refine hK _ _ ?_; clear hK K; try simp only [Act.put, zS]
         refine wpAnyIn_ready (rs := [5, 6]) (by kernel_rfl) (by simp) (AllReadyIn.cons rfl (fun K hK => ?_) (AllReadyIn.cons rfl (fun K hK => ?_) AllReadyIn.nil))
         ·go_simp; refine (((callsIn_wide (n := 2)).2 T1.out).inRound ll).mono ?_; rintro e w5 ⟨rfl, hb5⟩; have c3 := cellb c3 hb5; have c8 := cellb c8 hb5; refine hK _ _ ?_; clear hK K; try simp only [Act.put, zS]
          refine zR 6 rfl (fun K hK => ?_)
          go_simp; refine hK _ _ ?_; clear hK K; try simp only [Act.put, zS]
          refine zR 8 rfl (fun K hK => ?_)
          go_simp; refine (((callsIn_wide (n := 2)).2 (T2.out w5 hb5)).inRound ll).mono ?_; rintro e w8 ⟨rfl, hb8⟩; refine hK _ _ ?_; clear hK K; try simp only [Act.put, zS]
          refine zR 9 rfl (fun K hK => ?_)
          go_simp; refine hK _ _ ?_; clear hK K; try simp only [Act.put, zS]
          refine zR 10 rfl (fun K hK => ?_)
          go_simp; refine hK _ _ ?_; clear hK K; try simp only [Act.put, zS]
          refine wpAnyIn_done (by kernel_rfl) ?_ _
          gi_wp2_with fail
          gi_meet
          exact ⟨rfl, bthen (bthen hd hb5) hb8⟩
         ·go_simp; refine hK _ _ ?_; clear hK K; try simp only [Act.put, zS]
          refine zR 5 rfl (fun K hK => ?_)
          go_simp; refine (((callsIn_wide (n := 2)).2 T1.out).inRound ll).mono ?_; rintro e w5 ⟨rfl, hb5⟩; have c3 := cellb c3 hb5; have c8 := cellb c8 hb5; refine hK _ _ ?_; clear hK K; try simp only [Act.put, zS]
          refine zR 8 rfl (fun K hK => ?_)
          go_simp; refine (((callsIn_wide (n := 2)).2 (T2.out w5 hb5)).inRound ll).mono ?_; rintro e w8 ⟨rfl, hb8⟩; refine hK _ _ ?_; clear hK K; try simp only [Act.put, zS]
          refine zR 9 rfl (fun K hK => ?_)
          go_simp; refine hK _ _ ?_; clear hK K; try simp only [Act.put, zS]
          refine zR 10 rfl (fun K hK => ?_)
          go_simp; refine hK _ _ ?_; clear hK K; try simp only [Act.put, zS]
          refine wpAnyIn_done (by kernel_rfl) ?_ _
          gi_wp2_with fail
          gi_meet
          exact ⟨rfl, bthen (bthen hd hb5) hb8⟩
        ·go_simp; refine hK _ _ ?_; clear hK K; try simp only [Act.put, zS]
         refine zR 4 rfl (fun K hK => ?_)
         go_simp; refine hK _ _ ?_; clear hK K; try simp only [Act.put, zS]
         refine zR 5 rfl (fun K hK => ?_)
         go_simp; refine (((callsIn_wide (n := 2)).2 T1.out).inRound ll).mono ?_; rintro e w5 ⟨rfl, hb5⟩; have c3 := cellb c3 hb5; have c8 := cellb c8 hb5; refine hK _ _ ?_; clear hK K; try simp only [Act.put, zS]
         refine zR 8 rfl (fun K hK => ?_)
         go_simp; refine (((callsIn_wide (n := 2)).2 (T2.out w5 hb5)).inRound ll).mono ?_; rintro e w8 ⟨rfl, hb8⟩; refine hK _ _ ?_; clear hK K; try simp only [Act.put, zS]
         refine zR 9 rfl (fun K hK => ?_)
         go_simp; refine hK _ _ ?_; clear hK K; try simp only [Act.put, zS]
         refine zR 10 rfl (fun K hK => ?_)
         go_simp; refine hK _ _ ?_; clear hK K; try simp only [Act.put, zS]
         refine wpAnyIn_done (by kernel_rfl) ?_ _
         gi_wp2_with fail
         gi_meet
         exact ⟨rfl, bthen (bthen hd hb5) hb8⟩
      ·go_simp; refine hK _ _ ?_; clear hK K; try simp only [Act.put, zS]
       refine wpAnyIn_ready (rs := [3, 6, 7]) (by kernel_rfl) (by simp) (AllReadyIn.cons rfl (fun K hK => ?_) (AllReadyIn.cons rfl (fun K hK => ?_) (AllReadyIn.cons rfl (fun K hK => ?_) AllReadyIn.nil)))
       ·go_simp; refine hK _ _ ?_; clear hK K; try simp only [Act.put, zS]
        refine wpAnyIn_ready (rs := [5, 6, 7]) (by kernel_rfl) (by simp) (AllReadyIn.cons rfl (fun K hK => ?_) (AllReadyIn.cons rfl (fun K hK => ?_) (AllReadyIn.cons rfl (fun K hK => ?_) AllReadyIn.nil)))
        ·go_simp; refine (((callsIn_wide (n := 2)).2 T1.out).inRound ll).mono ?_; rintro e w5 ⟨rfl, hb5⟩; have c3 := cellb c3 hb5; have c8 := cellb c8 hb5; refine hK _ _ ?_; clear hK K; try simp only [Act.put, zS]
         refine wpAnyIn_ready (rs := [6, 7]) (by kernel_rfl) (by simp) (AllReadyIn.cons rfl (fun K hK => ?_) (AllReadyIn.cons rfl (fun K hK => ?_) AllReadyIn.nil))
         ·go_simp; refine hK _ _ ?_; clear hK K; try simp only [Act.put, zS]
          refine zR 7 rfl (fun K hK => ?_)
          go_simp; refine hK _ _ ?_; clear hK K; try simp only [Act.put, zS]
          refine zR 8 rfl (fun K hK => ?_)
          go_simp; refine (((callsIn_wide (n := 2)).2 (T2.out w5 hb5)).inRound ll).mono ?_; rintro e w8 ⟨rfl, hb8⟩; refine hK _ _ ?_; clear hK K; try simp only [Act.put, zS]
          refine zR 9 rfl (fun K hK => ?_)
          go_simp; refine hK _ _ ?_; clear hK K; try simp only [Act.put, zS]
          refine zR 10 rfl (fun K hK => ?_)
          go_simp; refine hK _ _ ?_; clear hK K; try simp only [Act.put, zS]
          refine wpAnyIn_done (by kernel_rfl) ?_ _
          gi_wp2_with fail
          gi_meet
          exact ⟨rfl, bthen (bthen hd hb5) hb8⟩
         ·go_simp; refine hK _ _ ?_; clear hK K; try simp only [Act.put, zS]
          refine zR 6 rfl (fun K hK => ?_)
          go_simp; refine hK _ _ ?_; clear hK K; try simp only [Act.put, zS]
          refine zR 8 rfl (fun K hK => ?_)
          go_simp; refine (((callsIn_wide (n := 2)).2 (T2.out w5 hb5)).inRound ll).mono ?_; rintro e w8 ⟨rfl, hb8⟩; refine hK _ _ ?_; clear hK K; try simp only [Act.put, zS]
          refine zR 9 rfl (fun K hK => ?_)
          go_simp; refine hK _ _ ?_; clear hK K; try simp only [Act.put, zS]
          refine zR 10 rfl (fun K hK => ?_)
          go_simp; refine hK _ _ ?_; clear hK K; try simp only [Act.put, zS]
          refine wpAnyIn_done (by kernel_rfl) ?_ _
          gi_wp2_with fail
          gi_meet
          exact ⟨rfl, bthen (bthen hd hb5) hb8⟩
        ·go_simp; refine hK _ _ ?_; clear hK K; try simp only [Act.put, zS]
         refine wpAnyIn_ready (rs := [5, 7]) (by kernel_rfl) (by simp) (AllReadyIn.cons rfl (fun K hK => ?_) (AllReadyIn.cons rfl (fun K hK => ?_) AllReadyIn.nil))
         ·go_simp; refine (((callsIn_wide (n := 2)).2 T1.out).inRound ll).mono ?_; rintro e w5 ⟨rfl, hb5⟩; have c3 := cellb c3 hb5; have c8 := cellb c8 hb5; refine hK _ _ ?_; clear hK K; try simp only [Act.put, zS]
          refine zR 7 rfl (fun K hK => ?_)
          go_simp; refine hK _ _ ?_; clear hK K; try simp only [Act.put, zS]
          refine zR 8 rfl (fun K hK => ?_)
          go_simp; refine (((callsIn_wide (n := 2)).2 (T2.out w5 hb5)).inRound ll).mono ?_; rintro e w8 ⟨rfl, hb8⟩; refine hK _ _ ?_; clear hK K; try simp only [Act.put, zS]
          refine zR 9 rfl (fun K hK => ?_)
          go_simp; refine hK _ _ ?_; clear hK K; try simp only [Act.put, zS]
          refine zR 10 rfl (fun K hK => ?_)
          go_simp; refine hK _ _ ?_; clear hK K; try simp only [Act.put, zS]
          refine wpAnyIn_done (by kernel_rfl) ?_ _
          gi_wp2_with fail
          gi_meet
          exact ⟨rfl, bthen (bthen hd hb5) hb8⟩
         ·go_simp; refine hK _ _ ?_; clear hK K; try simp only [Act.put, zS]
          refine zR 5 rfl (fun K hK => ?_)
          go_simp; refine (((callsIn_wide (n := 2)).2 T1.out).inRound ll).mono ?_; rintro e w5 ⟨rfl, hb5⟩; have c3 := cellb c3 hb5; have c8 := cellb c8 hb5; refine hK _ _ ?_; clear hK K; try simp only [Act.put, zS]
          refine zR 8 rfl (fun K hK => ?_)
          go_simp; refine (((callsIn_wide (n := 2)).2 (T2.out w5 hb5)).inRound ll).mono ?_; rintro e w8 ⟨rfl, hb8⟩; refine hK _ _ ?_; clear hK K; try simp only [Act.put, zS]
          refine zR 9 rfl (fun K hK => ?_)
          go_simp; refine hK _ _ ?_; clear hK K; try simp only [Act.put, zS]
          refine zR 10 rfl (fun K hK => ?_)
          go_simp; refine hK _ _ ?_; clear hK K; try simp only [Act.put, zS]
          refine wpAnyIn_done (by kernel_rfl) ?_ _
          gi_wp2_with fail
          gi_meet
          exact ⟨rfl, bthen (bthen hd hb5) hb8⟩
        ·go_simp; refine hK _ _ ?_; clear hK K; try simp only [Act.put, zS]
         refine wpAnyIn_ready (rs := [5, 6]) (by kernel_rfl) (by simp) (AllReadyIn.cons rfl (fun K hK => ?_) (AllReadyIn.cons rfl (fun K hK => ?_) AllReadyIn.nil))
         ·go_simp; refine (((callsIn_wide (n := 2)).2 T1.out).inRound ll).mono ?_; rintro e w5 ⟨rfl, hb5⟩; have c3 := cellb c3 hb5; have c8 := cellb c8 hb5; refine hK _ _ ?_; clear hK K; try simp only [Act.put, zS]
          refine zR 6 rfl (fun K hK => ?_)
          go_simp; refine hK _ _ ?_; clear hK K; try simp only [Act.put, zS]
          refine zR 8 rfl (fun K hK => ?_)
          go_simp; refine (((callsIn_wide (n := 2)).2 (T2.out w5 hb5)).inRound ll).mono ?_; rintro e w8 ⟨rfl, hb8⟩; refine hK _ _ ?_; clear hK K; try simp only [Act.put, zS]
          refine zR 9 rfl (fun K hK => ?_)
          go_simp; refine hK _ _ ?_; clear hK K; try simp only [Act.put, zS]
          refine zR 10 rfl (fun K hK => ?_)
          go_simp; refine hK _ _ ?_; clear hK K; try simp only [Act.put, zS]
          refine wpAnyIn_done (by kernel_rfl) ?_ _
          gi_wp2_with fail
          gi_meet
          exact ⟨rfl, bthen (bthen hd hb5) hb8⟩
         ·go_simp; refine hK _ _ ?_; clear hK K; try simp only [Act.put, zS]
          refine zR 5 rfl (fun K hK => ?_)
          go_simp; refine (((callsIn_wide (n := 2)).2 T1.out).inRound ll).mono ?_; rintro e w5 ⟨rfl, hb5⟩; have c3 := cellb c3 hb5; have c8 := cellb c8 hb5; refine hK _ _ ?_; clear hK K; try simp only [Act.put, zS]
          refine zR 8 rfl (fun K hK => ?_)
          go_simp; refine (((callsIn_wide (n := 2)).2 (T2.out w5 hb5)).inRound ll).mono ?_; rintro e w8 ⟨rfl, hb8⟩; refine hK _ _ ?_; clear hK K; try simp only [Act.put, zS]
          refine zR 9 rfl (fun K hK => ?_)
          go_simp; refine hK _ _ ?_; clear hK K; try simp only [Act.put, zS]
          refine zR 10 rfl (fun K hK => ?_)
          go_simp; refine hK _ _ ?_; clear hK K; try simp only [Act.put, zS]
          refine wpAnyIn_done (by kernel_rfl) ?_ _
          gi_wp2_with fail
          gi_meet
          exact ⟨rfl, bthen (bthen hd hb5) hb8⟩
       ·go_simp; refine hK _ _ ?_; clear hK K; try simp only [Act.put, zS]
        refine wpAnyIn_ready (rs := [3, 7]) (by kernel_rfl) (by simp) (AllReadyIn.cons rfl (fun K hK => ?_) (AllReadyIn.cons rfl (fun K hK => ?_) AllReadyIn.nil))
        ·go_simp; refine hK _ _ ?_; clear hK K; try simp only [Act.put, zS]
         refine wpAnyIn_ready (rs := [5, 7]) (by kernel_rfl) (by simp) (AllReadyIn.cons rfl (fun K hK => ?_) (AllReadyIn.cons rfl (fun K hK => ?_) AllReadyIn.nil))
         ·go_simp; refine (((callsIn_wide (n := 2)).2 T1.out).inRound ll).mono ?_; rintro e w5 ⟨rfl, hb5⟩; have c3 := cellb c3 hb5; have c8 := cellb c8 hb5; refine hK _ _ ?_; clear hK K; try simp only [Act.put, zS]
          refine zR 7 rfl (fun K hK => ?_)
          go_simp; refine hK _ _ ?_; clear hK K; try simp only [Act.put, zS]
          refine zR 8 rfl (fun K hK => ?_)
          go_simp; refine (((callsIn_wide (n := 2)).2 (T2.out w5 hb5)).inRound ll).mono ?_; rintro e w8 ⟨rfl, hb8⟩; refine hK _ _ ?_; clear hK K; try simp only [Act.put, zS]
          refine zR 9 rfl (fun K hK => ?_)
          go_simp; refine hK _ _ ?_; clear hK K; try simp only [Act.put, zS]
          refine zR 10 rfl (fun K hK => ?_)
          go_simp; refine hK _ _ ?_; clear hK K; try simp only [Act.put, zS]
          refine wpAnyIn_done (by kernel_rfl) ?_ _
          gi_wp2_with fail
          gi_meet
          exact ⟨rfl, bthen (bthen hd hb5) hb8⟩
         ·go_simp; refine hK _ _ ?_; clear hK K; try simp only [Act.put, zS]
          refine zR 5 rfl (fun K hK => ?_)
          go_simp; refine (((callsIn_wide (n := 2)).2 T1.out).inRound ll).mono ?_; rintro e w5 ⟨rfl, hb5⟩; have c3 := cellb c3 hb5; have c8 := cellb c8 hb5; refine hK _ _ ?_; clear hK K; try simp only [Act.put, zS]
          refine zR 8 rfl (fun K hK => ?_)
          go_simp; refine (((callsIn_wide (n := 2)).2 (T2.out w5 hb5)).inRound ll).mono ?_; rintro e w8 ⟨rfl, hb8⟩; refine hK _ _ ?_; clear hK K; try simp only [Act.put, zS]
          refine zR 9 rfl (fun K hK => ?_)
          go_simp; refine hK _ _ ?_; clear hK K; try simp only [Act.put, zS]
          refine zR 10 rfl (fun K hK => ?_)
          go_simp; refine hK _ _ ?_; clear hK K; try simp only [Act.put, zS]
          refine wpAnyIn_done (by kernel_rfl) ?_ _
          gi_wp2_with fail
          gi_meet
          exact ⟨rfl, bthen (bthen hd hb5) hb8⟩
        ·go_simp; refine hK _ _ ?_; clear hK K; try simp only [Act.put, zS]
         refine zR 3 rfl (fun K hK => ?_)
         go_simp; refine hK _ _ ?_; clear hK K; try simp only [Act.put, zS]
         refine zR 5 rfl (fun K hK => ?_)
         go_simp; refine (((callsIn_wide (n := 2)).2 T1.out).inRound ll).mono ?_; rintro e w5 ⟨rfl, hb5⟩; have c3 := cellb c3 hb5; have c8 := cellb c8 hb5; refine hK _ _ ?_; clear hK K; try simp only [Act.put, zS]
         refine zR 8 rfl (fun K hK => ?_)
         go_simp; refine (((callsIn_wide (n := 2)).2 (T2.out w5 hb5)).inRound ll).mono ?_; rintro e w8 ⟨rfl, hb8⟩; refine hK _ _ ?_; clear hK K; try simp only [Act.put, zS]
         refine zR 9 rfl (fun K hK => ?_)
         go_simp; refine hK _ _ ?_; clear hK K; try simp only [Act.put, zS]
         refine zR 10 rfl (fun K hK => ?_)
         go_simp; refine hK _ _ ?_; clear hK K; try simp only [Act.put, zS]
         refine wpAnyIn_done (by kernel_rfl) ?_ _
         gi_wp2_with fail
         gi_meet
         exact ⟨rfl, bthen (bthen hd hb5) hb8⟩
       ·go_simp; refine hK _ _ ?_; clear hK K; try simp only [Act.put, zS]
        refine wpAnyIn_ready (rs := [3, 6]) (by kernel_rfl) (by simp) (AllReadyIn.cons rfl (fun K hK => ?_) (AllReadyIn.cons rfl (fun K hK => ?_) AllReadyIn.nil))
        ·go_simp; refine hK _ _ ?_; clear hK K; try simp only [Act.put, zS]
         refine wpAnyIn_ready (rs := [5, 6]) (by kernel_rfl) (by simp) (AllReadyIn.cons rfl (fun K hK => ?_) (AllReadyIn.cons rfl (fun K hK => ?_) AllReadyIn.nil))
         ·go_simp; refine (((callsIn_wide (n := 2)).2 T1.out).inRound ll).mono ?_; rintro e w5 ⟨rfl, hb5⟩; have c3 := cellb c3 hb5; have c8 := cellb c8 hb5; refine hK _ _ ?_; clear hK K; try simp only [Act.put, zS]
          refine zR 6 rfl (fun K hK => ?_)
          go_simp; refine hK _ _ ?_; clear hK K; try simp only [Act.put, zS]
          refine zR 8 rfl (fun K hK => ?_)
          go_simp; refine (((callsIn_wide (n := 2)).2 (T2.out w5 hb5)).inRound ll).mono ?_; rintro e w8 ⟨rfl, hb8⟩; refine hK _ _ ?_; clear hK K; try simp only [Act.put, zS]
          refine zR 9 rfl (fun K hK => ?_)
          go_simp; refine hK _ _ ?_; clear hK K; try simp only [Act.put, zS]
          refine zR 10 rfl (fun K hK => ?_)
          go_simp; refine hK _ _ ?_; clear hK K; try simp only [Act.put, zS]
          refine wpAnyIn_done (by kernel_rfl) ?_ _
          gi_wp2_with fail
          gi_meet
          exact ⟨rfl, bthen (bthen hd hb5) hb8⟩
         ·go_simp; refine hK _ _ ?_; clear hK K; try simp only [Act.put, zS]
          refine zR 5 rfl (fun K hK => ?_)
          go_simp; refine (((callsIn_wide (n := 2)).2 T1.out).inRound ll).mono ?_; rintro e w5 ⟨rfl, hb5⟩; have c3 := cellb c3 hb5; have c8 := cellb c8 hb5; refine hK _ _ ?_; clear hK K; try simp only [Act.put, zS]
          refine zR 8 rfl (fun K hK => ?_)
          go_simp; refine (((callsIn_wide (n := 2)).2 (T2.out w5 hb5)).inRound ll).mono ?_; rintro e w8 ⟨rfl, hb8⟩; refine hK _ _ ?_; clear hK K; try simp only [Act.put, zS]
          refine zR 9 rfl (fun K hK => ?_)
          go_simp; refine hK _ _ ?_; clear hK K; try simp only [Act.put, zS]
          refine zR 10 rfl (fun K hK => ?_)
          go_simp; refine hK _ _ ?_; clear hK K; try simp only [Act.put, zS]
          refine wpAnyIn_done (by kernel_rfl) ?_ _
          gi_wp2_with fail
          gi_meet
          exact ⟨rfl, bthen (bthen hd hb5) hb8⟩
        ·go_simp; refine hK _ _ ?_; clear hK K; try simp only [Act.put, zS]
         refine zR 3 rfl (fun K hK => ?_)
         go_simp; refine hK _ _ ?_; clear hK K; try simp only [Act.put, zS]
         refine zR 5 rfl (fun K hK => ?_)
         go_simp; refine (((callsIn_wide (n := 2)).2 T1.out).inRound ll).mono ?_; rintro e w5 ⟨rfl, hb5⟩; have c3 := cellb c3 hb5; have c8 := cellb c8 hb5; refine hK _ _ ?_; clear hK K; try simp only [Act.put, zS]
         refine zR 8 rfl (fun K hK => ?_)
         go_simp; refine (((callsIn_wide (n := 2)).2 (T2.out w5 hb5)).inRound ll).mono ?_; rintro e w8 ⟨rfl, hb8⟩; refine hK _ _ ?_; clear hK K; try simp only [Act.put, zS]
         refine zR 9 rfl (fun K hK => ?_)
         go_simp; refine hK _ _ ?_; clear hK K; try simp only [Act.put, zS]
         refine zR 10 rfl (fun K hK => ?_)
         go_simp; refine hK _ _ ?_; clear hK K; try simp only [Act.put, zS]
         refine wpAnyIn_done (by kernel_rfl) ?_ _
         gi_wp2_with fail
         gi_meet
         exact ⟨rfl, bthen (bthen hd hb5) hb8⟩
      ·go_simp; refine hK _ _ ?_; clear hK K; try simp only [Act.put, zS]
       refine wpAnyIn_ready (rs := [3, 4, 7]) (by kernel_rfl) (by simp) (AllReadyIn.cons rfl (fun K hK => ?_) (AllReadyIn.cons rfl (fun K hK => ?_) (AllReadyIn.cons rfl (fun K hK => ?_) AllReadyIn.nil)))
       ·go_simp; refine hK _ _ ?_; clear hK K; try simp only [Act.put, zS]
        refine wpAnyIn_ready (rs := [4, 7]) (by kernel_rfl) (by simp) (AllReadyIn.cons rfl (fun K hK => ?_) (AllReadyIn.cons rfl (fun K hK => ?_) AllReadyIn.nil))
        ·go_simp; refine hK _ _ ?_; clear hK K; try simp only [Act.put, zS]
         refine wpAnyIn_ready (rs := [5, 7]) (by kernel_rfl) (by simp) (AllReadyIn.cons rfl (fun K hK => ?_) (AllReadyIn.cons rfl (fun K hK => ?_) AllReadyIn.nil))
         ·go_simp; refine (((callsIn_wide (n := 2)).2 T1.out).inRound ll).mono ?_; rintro e w5 ⟨rfl, hb5⟩; have c3 := cellb c3 hb5; have c8 := cellb c8 hb5; refine hK _ _ ?_; clear hK K; try simp only [Act.put, zS]
          refine zR 7 rfl (fun K hK => ?_)
          go_simp; refine hK _ _ ?_; clear hK K; try simp only [Act.put, zS]
          refine zR 8 rfl (fun K hK => ?_)
          go_simp; refine (((callsIn_wide (n := 2)).2 (T2.out w5 hb5)).inRound ll).mono ?_; rintro e w8 ⟨rfl, hb8⟩; refine hK _ _ ?_; clear hK K; try simp only [Act.put, zS]
          refine zR 9 rfl (fun K hK => ?_)
          go_simp; refine hK _ _ ?_; clear hK K; try simp only [Act.put, zS]
          refine zR 10 rfl (fun K hK => ?_)
          go_simp; refine hK _ _ ?_; clear hK K; try simp only [Act.put, zS]
          refine wpAnyIn_done (by kernel_rfl) ?_ _
          gi_wp2_with fail
          gi_meet
          exact ⟨rfl, bthen (bthen hd hb5) hb8⟩
         ·go_simp; refine hK _ _ ?_; clear hK K; try simp only [Act.put, zS]
          refine zR 5 rfl (fun K hK => ?_)
          go_simp; refine (((callsIn_wide (n := 2)).2 T1.out).inRound ll).mono ?_; rintro e w5 ⟨rfl, hb5⟩; have c3 := cellb c3 hb5; have c8 := cellb c8 hb5; refine hK _ _ ?_; clear hK K; try simp only [Act.put, zS]
          refine zR 8 rfl (fun K hK => ?_)
          go_simp; refine (((callsIn_wide (n := 2)).2 (T2.out w5 hb5)).inRound ll).mono ?_; rintro e w8 ⟨rfl, hb8⟩; refine hK _ _ ?_; clear hK K; try simp only [Act.put, zS]
          refine zR 9 rfl (fun K hK => ?_)
          go_simp; refine hK _ _ ?_; clear hK K; try simp only [Act.put, zS]
          refine zR 10 rfl (fun K hK => ?_)
          go_simp; refine hK _ _ ?_; clear hK K; try simp only [Act.put, zS]
          refine wpAnyIn_done (by kernel_rfl) ?_ _
          gi_wp2_with fail
          gi_meet
          exact ⟨rfl, bthen (bthen hd hb5) hb8⟩
        ·go_simp; refine hK _ _ ?_; clear hK K; try simp only [Act.put, zS]
         refine zR 4 rfl (fun K hK => ?_)
         go_simp; refine hK _ _ ?_; clear hK K; try simp only [Act.put, zS]
         refine zR 5 rfl (fun K hK => ?_)
         go_simp; refine (((callsIn_wide (n := 2)).2 T1.out).inRound ll).mono ?_; rintro e w5 ⟨rfl, hb5⟩; have c3 := cellb c3 hb5; have c8 := cellb c8 hb5; refine hK _ _ ?_; clear hK K; try simp only [Act.put, zS]
         refine zR 8 rfl (fun K hK => ?_)
         go_simp; refine (((callsIn_wide (n := 2)).2 (T2.out w5 hb5)).inRound ll).mono ?_; rintro e w8 ⟨rfl, hb8⟩; refine hK _ _ ?_; clear hK K; try simp only [Act.put, zS]
         refine zR 9 rfl (fun K hK => ?_)
         go_simp; refine hK _ _ ?_; clear hK K; try simp only [Act.put, zS]
         refine zR 10 rfl (fun K hK => ?_)
         go_simp; refine hK _ _ ?_; clear hK K; try simp only [Act.put, zS]
         refine wpAnyIn_done (by kernel_rfl) ?_ _
         gi_wp2_with fail
         gi_meet
         exact ⟨rfl, bthen (bthen hd hb5) hb8⟩
       ·go_simp; refine hK _ _ ?_; clear hK K; try simp only [Act.put, zS]
        refine wpAnyIn_ready (rs := [3, 7]) (by kernel_rfl) (by simp) (AllReadyIn.cons rfl (fun K hK => ?_) (AllReadyIn.cons rfl (fun K hK => ?_) AllReadyIn.nil))
        ·go_simp; refine hK _ _ ?_; clear hK K; try simp only [Act.put, zS]
         refine wpAnyIn_ready (rs := [5, 7]) (by kernel_rfl) (by simp) (AllReadyIn.cons rfl (fun K hK => ?_) (AllReadyIn.cons rfl (fun K hK => ?_) AllReadyIn.nil))
         ·go_simp; refine (((callsIn_wide (n := 2)).2 T1.out).inRound ll).mono ?_; rintro e w5 ⟨rfl, hb5⟩; have c3 := cellb c3 hb5; have c8 := cellb c8 hb5; refine hK _ _ ?_; clear hK K; try simp only [Act.put, zS]
          refine zR 7 rfl (fun K hK => ?_)
          go_simp; refine hK _ _ ?_; clear hK K; try simp only [Act.put, zS]
          refine zR 8 rfl (fun K hK => ?_)
          go_simp; refine (((callsIn_wide (n := 2)).2 (T2.out w5 hb5)).inRound ll).mono ?_; rintro e w8 ⟨rfl, hb8⟩; refine hK _ _ ?_; clear hK K; try simp only [Act.put, zS]
          refine zR 9 rfl (fun K hK => ?_)
          go_simp; refine hK _ _ ?_; clear hK K; try simp only [Act.put, zS]
          refine zR 10 rfl (fun K hK => ?_)
          go_simp; refine hK _ _ ?_; clear hK K; try simp only [Act.put, zS]
          refine wpAnyIn_done (by kernel_rfl) ?_ _
          gi_wp2_with fail
          gi_meet
          exact ⟨rfl, bthen (bthen hd hb5) hb8⟩
         ·go_simp; refine hK _ _ ?_; clear hK K; try simp only [Act.put, zS]
          refine zR 5 rfl (fun K hK => ?_)
          go_simp; refine (((callsIn_wide (n := 2)).2 T1.out).inRound ll).mono ?_; rintro e w5 ⟨rfl, hb5⟩; have c3 := cellb c3 hb5; have c8 := cellb c8 hb5; refine hK _ _ ?_; clear hK K; try simp only [Act.put, zS]
          refine zR 8 rfl (fun K hK => ?_)
          go_simp; refine (((callsIn_wide (n := 2)).2 (T2.out w5 hb5)).inRound ll).mono ?_; rintro e w8 ⟨rfl, hb8⟩; refine hK _ _ ?_; clear hK K; try simp only [Act.put, zS]
          refine zR 9 rfl (fun K hK => ?_)
          go_simp; refine hK _ _ ?_; clear hK K; try simp only [Act.put, zS]
          refine zR 10 rfl (fun K hK => ?_)
          go_simp; refine hK _ _ ?_; clear hK K; try simp only [Act.put, zS]
          refine wpAnyIn_done (by kernel_rfl) ?_ _
          gi_wp2_with fail
          gi_meet
          exact ⟨rfl, bthen (bthen hd hb5) hb8⟩
        ·go_simp; refine hK _ _ ?_; clear hK K; try simp only [Act.put, zS]
         refine zR 3 rfl (fun K hK => ?_)
         go_simp; refine hK _ _ ?_; clear hK K; try simp only [Act.put, zS]
         refine zR 5 rfl (fun K hK => ?_)
         go_simp; refine (((callsIn_wide (n := 2)).2 T1.out).inRound ll).mono ?_; rintro e w5 ⟨rfl, hb5⟩; have c3 := cellb c3 hb5; have c8 := cellb c8 hb5; refine hK _ _ ?_; clear hK K; try simp only [Act.put, zS]
         refine zR 8 rfl (fun K hK => ?_)
         go_simp; refine (((callsIn_wide (n := 2)).2 (T2.out w5 hb5)).inRound ll).mono ?_; rintro e w8 ⟨rfl, hb8⟩; refine hK _ _ ?_; clear hK K; try simp only [Act.put, zS]
         refine zR 9 rfl (fun K hK => ?_)
         go_simp; refine hK _ _ ?_; clear hK K; try simp only [Act.put, zS]
         refine zR 10 rfl (fun K hK => ?_)
         go_simp; refine hK _ _ ?_; clear hK K; try simp only [Act.put, zS]
         refine wpAnyIn_done (by kernel_rfl) ?_ _
         gi_wp2_with fail
         gi_meet
         exact ⟨rfl, bthen (bthen hd hb5) hb8⟩
       ·go_simp; refine hK _ _ ?_; clear hK K; try simp only [Act.put, zS]
        refine wpAnyIn_ready (rs := [3, 4]) (by kernel_rfl) (by simp) (AllReadyIn.cons rfl (fun K hK => ?_) (AllReadyIn.cons rfl (fun K hK => ?_) AllReadyIn.nil))
        ·go_simp; refine hK _ _ ?_; clear hK K; try simp only [Act.put, zS]
         refine zR 4 rfl (fun K hK => ?_)
         go_simp; refine hK _ _ ?_; clear hK K; try simp only [Act.put, zS]
         refine zR 5 rfl (fun K hK => ?_)
         go_simp; refine (((callsIn_wide (n := 2)).2 T1.out).inRound ll).mono ?_; rintro e w5 ⟨rfl, hb5⟩; have c3 := cellb c3 hb5; have c8 := cellb c8 hb5; refine hK _ _ ?_; clear hK K; try simp only [Act.put, zS]
         refine zR 8 rfl (fun K hK => ?_)
         go_simp; refine (((callsIn_wide (n := 2)).2 (T2.out w5 hb5)).inRound ll).mono ?_; rintro e w8 ⟨rfl, hb8⟩; refine hK _ _ ?_; clear hK K; try simp only [Act.put, zS]
         refine zR 9 rfl (fun K hK => ?_)
         go_simp; refine hK _ _ ?_; clear hK K; try simp only [Act.put, zS]
         refine zR 10 rfl (fun K hK => ?_)
         go_simp; refine hK _ _ ?_; clear hK K; try simp only [Act.put, zS]
         refine wpAnyIn_done (by kernel_rfl) ?_ _
         gi_wp2_with fail
         gi_meet
         exact ⟨rfl, bthen (bthen hd hb5) hb8⟩
        ·go_simp; refine hK _ _ ?_; clear hK K; try simp only [Act.put, zS]
         refine zR 3 rfl (fun K hK => ?_)
         go_simp; refine hK _ _ ?_; clear hK K; try simp only [Act.put, zS]
         refine zR 5 rfl (fun K hK => ?_)
         go_simp; refine (((callsIn_wide (n := 2)).2 T1.out).inRound ll).mono ?_; rintro e w5 ⟨rfl, hb5⟩; have c3 := cellb c3 hb5; have c8 := cellb c8 hb5; refine hK _ _ ?_; clear hK K; try simp only [Act.put, zS]
         refine zR 8 rfl (fun K hK => ?_)
         go_simp; refine (((callsIn_wide (n := 2)).2 (T2.out w5 hb5)).inRound ll).mono ?_; rintro e w8 ⟨rfl, hb8⟩; refine hK _ _ ?_; clear hK K; try simp only [Act.put, zS]
         refine zR 9 rfl (fun K hK => ?_)
         go_simp; refine hK _ _ ?_; clear hK K; try simp only [Act.put, zS]
         refine zR 10 rfl (fun K hK => ?_)
         go_simp; refine hK _ _ ?_; clear hK K; try simp only [Act.put, zS]
         refine wpAnyIn_done (by kernel_rfl) ?_ _
         gi_wp2_with fail
         gi_meet
         exact ⟨rfl, bthen (bthen hd hb5) hb8⟩
      ·go_simp; refine hK _ _ ?_; clear hK K; try simp only [Act.put, zS]
       refine wpAnyIn_ready (rs := [3, 4, 6]) (by kernel_rfl) (by simp) (AllReadyIn.cons rfl (fun K hK => ?_) (AllReadyIn.cons rfl (fun K hK => ?_) (AllReadyIn.cons rfl (fun K hK => ?_) AllReadyIn.nil)))
       ·go_simp; refine hK _ _ ?_; clear hK K; try simp only [Act.put, zS]
        refine wpAnyIn_ready (rs := [4, 6]) (by kernel_rfl) (by simp) (AllReadyIn.cons rfl (fun K hK => ?_) (AllReadyIn.cons rfl (fun K hK => ?_) AllReadyIn.nil))
        ·go_simp; refine hK _ _ ?_; clear hK K; try simp only [Act.put, zS]
         refine wpAnyIn_ready (rs := [5, 6]) (by kernel_rfl) (by simp) (AllReadyIn.cons rfl (fun K hK => ?_) (AllReadyIn.cons rfl (fun K hK => ?_) AllReadyIn.nil))
         ·go_simp; refine (((callsIn_wide (n := 2)).2 T1.out).inRound ll).mono ?_; rintro e w5 ⟨rfl, hb5⟩; have c3 := cellb c3 hb5; have c8 := cellb c8 hb5; refine hK _ _ ?_; clear hK K; try simp only [Act.put, zS]
          refine zR 6 rfl (fun K hK => ?_)
          go_simp; refine hK _ _ ?_; clear hK K; try simp only [Act.put, zS]
          refine zR 8 rfl (fun K hK => ?_)
          go_simp; refine (((callsIn_wide (n := 2)).2 (T2.out w5 hb5)).inRound ll).mono ?_; rintro e w8 ⟨rfl, hb8⟩; refine hK _ _ ?_; clear hK K; try simp only [Act.put, zS]
          refine zR 9 rfl (fun K hK => ?_)
          go_simp; refine hK _ _ ?_; clear hK K; try simp only [Act.put, zS]
          refine zR 10 rfl (fun K hK => ?_)
          go_simp; refine hK _ _ ?_; clear hK K; try simp only [Act.put, zS]
          refine wpAnyIn_done (by kernel_rfl) ?_ _
          gi_wp2_with fail
          gi_meet
          exact ⟨rfl, bthen (bthen hd hb5) hb8⟩
         ·go_simp; refine hK _ _ ?_; clear hK K; try simp only [Act.put, zS]
          refine zR 5 rfl (fun K hK => ?_)
          go_simp; refine (((callsIn_wide (n := 2)).2 T1.out).inRound ll).mono ?_; rintro e w5 ⟨rfl, hb5⟩; have c3 := cellb c3 hb5; have c8 := cellb c8 hb5; refine hK _ _ ?_; clear hK K; try simp only [Act.put, zS]
          refine zR 8 rfl (fun K hK => ?_)
          go_simp; refine (((callsIn_wide (n := 2)).2 (T2.out w5 hb5)).inRound ll).mono ?_; rintro e w8 ⟨rfl, hb8⟩; refine hK _ _ ?_; clear hK K; try simp only [Act.put, zS]
          refine zR 9 rfl (fun K hK => ?_)
          go_simp; refine hK _ _ ?_; clear hK K; try simp only [Act.put, zS]
          refine zR 10 rfl (fun K hK => ?_)
          go_simp; refine hK _ _ ?_; clear hK K; try simp only [Act.put, zS]
          refine wpAnyIn_done (by kernel_rfl) ?_ _
          gi_wp2_with fail
          gi_meet
          exact ⟨rfl, bthen (bthen hd hb5) hb8⟩
        ·go_simp; refine hK _ _ ?_; clear hK K; try simp only [Act.put, zS]
         refine zR 4 rfl (fun K hK => ?_)
         go_simp; refine hK _ _ ?_; clear hK K; try simp only [Act.put, zS]
         refine zR 5 rfl (fun K hK => ?_)
         go_simp; refine (((callsIn_wide (n := 2)).2 T1.out).inRound ll).mono ?_; rintro e w5 ⟨rfl, hb5⟩; have c3 := cellb c3 hb5; have c8 := cellb c8 hb5; refine hK _ _ ?_; clear hK K; try simp only [Act.put, zS]
         refine zR 8 rfl (fun K hK => ?_)
         go_simp; refine (((callsIn_wide (n := 2)).2 (T2.out w5 hb5)).inRound ll).mono ?_; rintro e w8 ⟨rfl, hb8⟩; refine hK _ _ ?_; clear hK K; try simp only [Act.put, zS]
         refine zR 9 rfl (fun K hK => ?_)
         go_simp; refine hK _ _ ?_; clear hK K; try simp only [Act.put, zS]
         refine zR 10 rfl (fun K hK => ?_)
         go_simp; refine hK _ _ ?_; clear hK K; try simp only [Act.put, zS]
         refine wpAnyIn_done (by kernel_rfl) ?_ _
         gi_wp2_with fail
         gi_meet
         exact ⟨rfl, bthen (bthen hd hb5) hb8⟩
       ·go_simp; refine hK _ _ ?_; clear hK K; try simp only [Act.put, zS]
        refine wpAnyIn_ready (rs := [3, 6]) (by kernel_rfl) (by simp) (AllReadyIn.cons rfl (fun K hK => ?_) (AllReadyIn.cons rfl (fun K hK => ?_) AllReadyIn.nil))
        ·go_simp; refine hK _ _ ?_; clear hK K; try simp only [Act.put, zS]
         refine wpAnyIn_ready (rs := [5, 6]) (by kernel_rfl) (by simp) (AllReadyIn.cons rfl (fun K hK => ?_) (AllReadyIn.cons rfl (fun K hK => ?_) AllReadyIn.nil))
         ·go_simp; refine (((callsIn_wide (n := 2)).2 T1.out).inRound ll).mono ?_; rintro e w5 ⟨rfl, hb5⟩; have c3 := cellb c3 hb5; have c8 := cellb c8 hb5; refine hK _ _ ?_; clear hK K; try simp only [Act.put, zS]
          refine zR 6 rfl (fun K hK => ?_)
          go_simp; refine hK _ _ ?_; clear hK K; try simp only [Act.put, zS]
          refine zR 8 rfl (fun K hK => ?_)
          go_simp; refine (((callsIn_wide (n := 2)).2 (T2.out w5 hb5)).inRound ll).mono ?_; rintro e w8 ⟨rfl, hb8⟩; refine hK _ _ ?_; clear hK K; try simp only [Act.put, zS]
          refine zR 9 rfl (fun K hK => ?_)
          go_simp; refine hK _ _ ?_; clear hK K; try simp only [Act.put, zS]
          refine zR 10 rfl (fun K hK => ?_)
          go_simp; refine hK _ _ ?_; clear hK K; try simp only [Act.put, zS]
          refine wpAnyIn_done (by kernel_rfl) ?_ _
          gi_wp2_with fail
          gi_meet
          exact ⟨rfl, bthen (bthen hd hb5) hb8⟩
         ·go_simp; refine hK _ _ ?_; clear hK K; try simp only [Act.put, zS]
          refine zR 5 rfl (fun K hK => ?_)
          go_simp; refine (((callsIn_wide (n := 2)).2 T1.out).inRound ll).mono ?_; rintro e w5 ⟨rfl, hb5⟩; have c3 := cellb c3 hb5; have c8 := cellb c8 hb5; refine hK _ _ ?_; clear hK K; try simp only [Act.put, zS]
          refine zR 8 rfl (fun K hK => ?_)
          go_simp; refine (((callsIn_wide (n := 2)).2 (T2.out w5 hb5)).inRound ll).mono ?_; rintro e w8 ⟨rfl, hb8⟩; refine hK _ _ ?_; clear hK K; try simp only [Act.put, zS]
          refine zR 9 rfl (fun K hK => ?_)
          go_simp; refine hK _ _ ?_; clear hK K; try simp only [Act.put, zS]
          refine zR 10 rfl (fun K hK => ?_)
          go_simp; refine hK _ _ ?_; clear hK K; try simp only [Act.put, zS]
          refine wpAnyIn_done (by kernel_rfl) ?_ _
          gi_wp2_with fail
          gi_meet
          exact ⟨rfl, bthen (bthen hd hb5) hb8⟩
        ·go_simp; refine hK _ _ ?_; clear hK K; try simp only [Act.put, zS]
         refine zR 3 rfl (fun K hK => ?_)
         go_simp; refine hK _ _ ?_; clear hK K; try simp only [Act.put, zS]
         refine zR 5 rfl (fun K hK => ?_)
         go_simp; refine (((callsIn_wide (n := 2)).2 T1.out).inRound ll).mono ?_; rintro e w5 ⟨rfl, hb5⟩; have c3 := cellb c3 hb5; have c8 := cellb c8 hb5; refine hK _ _ ?_; clear hK K; try simp only [Act.put, zS]
         refine zR 8 rfl (fun K hK => ?_)
         go_simp; refine (((callsIn_wide (n := 2)).2 (T2.out w5 hb5)).inRound ll).mono ?_; rintro e w8 ⟨rfl, hb8⟩; refine hK _ _ ?_; clear hK K; try simp only [Act.put, zS]
         refine zR 9 rfl (fun K hK => ?_)
         go_simp; refine hK _ _ ?_; clear hK K; try simp only [Act.put, zS]
         refine zR 10 rfl (fun K hK => ?_)
         go_simp; refine hK _ _ ?_; clear hK K; try simp only [Act.put, zS]
         refine wpAnyIn_done (by kernel_rfl) ?_ _
         gi_wp2_with fail
         gi_meet
         exact ⟨rfl, bthen (bthen hd hb5) hb8⟩
       ·go_simp; refine hK _ _ ?_; clear hK K; try simp only [Act.put, zS]
        refine wpAnyIn_ready (rs := [3, 4]) (by kernel_rfl) (by simp) (AllReadyIn.cons rfl (fun K hK => ?_) (AllReadyIn.cons rfl (fun K hK => ?_) AllReadyIn.nil))
        ·go_simp; refine hK _ _ ?_; clear hK K; try simp only [Act.put, zS]
         refine zR 4 rfl (fun K hK => ?_)
         go_simp; refine hK _ _ ?_; clear hK K; try simp only [Act.put, zS]
         refine zR 5 rfl (fun K hK => ?_)
         go_simp; refine (((callsIn_wide (n := 2)).2 T1.out).inRound ll).mono ?_; rintro e w5 ⟨rfl, hb5⟩; have c3 := cellb c3 hb5; have c8 := cellb c8 hb5; refine hK _ _ ?_; clear hK K; try simp only [Act.put, zS]
         refine zR 8 rfl (fun K hK => ?_)
         go_simp; refine (((callsIn_wide (n := 2)).2 (T2.out w5 hb5)).inRound ll).mono ?_; rintro e w8 ⟨rfl, hb8⟩; refine hK _ _ ?_; clear hK K; try simp only [Act.put, zS]
         refine zR 9 rfl (fun K hK => ?_)
         go_simp; refine hK _ _ ?_; clear hK K; try simp only [Act.put, zS]
         refine zR 10 rfl (fun K hK => ?_)
         go_simp; refine hK _ _ ?_; clear hK K; try simp only [Act.put, zS]
         refine wpAnyIn_done (by kernel_rfl) ?_ _
         gi_wp2_with fail
         gi_meet
         exact ⟨rfl, bthen (bthen hd hb5) hb8⟩
        ·go_simp; refine hK _ _ ?_; clear hK K; try simp only [Act.put, zS]
         refine zR 3 rfl (fun K hK => ?_)
         go_simp; refine hK _ _ ?_; clear hK K; try simp only [Act.put, zS]
         refine zR 5 rfl (fun K hK => ?_)
         go_simp; refine (((callsIn_wide (n := 2)).2 T1.out).inRound ll).mono ?_; rintro e w5 ⟨rfl, hb5⟩; have c3 := cellb c3 hb5; have c8 := cellb c8 hb5; refine hK _ _ ?_; clear hK K; try simp only [Act.put, zS]
         refine zR 8 rfl (fun K hK => ?_)
         go_simp; refine (((callsIn_wide (n := 2)).2 (T2.out w5 hb5)).inRound ll).mono ?_; rintro e w8 ⟨rfl, hb8⟩; refine hK _ _ ?_; clear hK K; try simp only [Act.put, zS]
         refine zR 9 rfl (fun K hK => ?_)
         go_simp; refine hK _ _ ?_; clear hK K; try simp only [Act.put, zS]
         refine zR 10 rfl (fun K hK => ?_)
         go_simp; refine hK _ _ ?_; clear hK K; try simp only [Act.put, zS]
         refine wpAnyIn_done (by kernel_rfl) ?_ _
         gi_wp2_with fail
         gi_meet
         exact ⟨rfl, bthen (bthen hd hb5) hb8⟩
   case rest =>
    obtain ⟨rfl, hbn⟩ := hcut
    have j1 := Blk.carry j1 hbn
    have j2 := Blk.carry j2 hbn
    have i3 := Blk.carry i3 hbn
    have hx := hx.carry hbn
    have hvb := hvb.carry hbn
    have hBn := hBW.trans (hbn.mono hBW.size)
    have hnn : V.heap.size ≤ wc.heap.size := Nat.le_trans hn1 hbn.size
    have hK0 := Lib.hid (keeps_of_below hbn)
    have hK1 := Lib.hid (KPl.below (n₁ := V.heap.size) hbn hBW.size)
    obtain ⟨NL, hNL⟩ : ∃ L, L = if cnd = true then xl else o.getD [] := ⟨_, rfl⟩
    have hNLl : NL.length ≤ 1000 := by
     rw [hNL]
     split
     ·exact hxl
     ·cases o with
      | none => simp
      | some y => exact HYL.out y rfl
    rw [← hNL] at HNEW
    have HNL := Lib.hid hNL
    clear hNL
    gi_upto_if 31 with fail
    gi_cut [] from 32 (fun wn => (∃ vb', Blk wn BB 63 [vb'] ∧ OwnI 3 V.heap.size wn vb' NL) ∧ Blk wn (BB + 1) 4 [.bool true] ∧ Blk wn w.heap.size 89 [.slice oa NO oc] ∧ Below w.heap.size w wn ∧ V.heap.size ≤ wn.heap.size ∧ KeepsOthers W wn ∧ KPl w.heap.size V.heap.size W wn)
    case first =>
     cases cnd with
     | true =>
       have HNX := Lib.hid (show NL = xl by rw [HNL.out, if_pos rfl])
       have c8 := j1.cell (j := 0) (v := .slice ya (o.getD []).length yc) rfl
       have f8 := j1.frozen 0
       have c9 := j2.cell (j := 0) (v := .bool o.isSome) rfl
       have f9 := j2.frozen 0
       have HJ1 := Lib.hid ((j1.set 0 (.slice xa xl.length xc)).other (show BB ≠ BB + 1 by omega) (j := 0) (.bool true))
       have HJ2 := Lib.hid ((j2.other (show BB + 1 ≠ BB by omega) (j := 0) (.slice xa xl.length xc)).set 0 (.bool true))
       have HI3 := Lib.hid ((i3.other (show w.heap.size ≠ BB by omega) (j := 0) (.slice xa xl.length xc)).other (show w.heap.size ≠ BB + 1 by omega) (j := 0) (.bool true))
       have k1 := (KPl.set (n₀ := w.heap.size) (n₁ := V.heap.size) wc ⟨BB, 0, none⟩ (.slice xa xl.length xc) (by simp; omega) (by simp; omega)).trans (KPl.set _ ⟨BB + 1, 0, none⟩ (.bool true) (by simp; omega) (by simp; omega))
       have HK2 := Lib.hid k1
       have HOX := Lib.hid (hx.kpl k1)
       have hsz : V.heap.size ≤ ((wc.setCell ⟨BB, 0, none⟩ (.slice xa xl.length xc)).setCell ⟨BB + 1, 0, none⟩ (.bool true)).heap.size := by have := k1.1.size; simpa [World.setCell] using hnn
       have HSZ := Lib.hid hsz
       clear j1 j2 i3 k1 hvb hx hsz
       gi_wp2
       gi_meet
       rw [HNX.out]
       exact ⟨⟨_, HJ1.out, HOX.out⟩, HJ2.out, HI3.out, hBn.trans HK2.out.1, HSZ.out, hK0.out.trans ((KeepsOthers.setCell _ _ _).trans (KeepsOthers.setCell _ _ _)), hK1.out.trans HK2.out⟩
     | false =>
       cases o with
       | none => exact absurd HCND.out (by simp [cndB])
       | some y =>
         have HNX := Lib.hid (show NL = y by rw [HNL.out, if_neg (by decide)]; rfl)
         simp only [Option.getD_some, Option.isSome_some] at *
         gi_wp2
         gi_meet
         rw [HNX.out]
         exact ⟨⟨_, j1, hvb⟩, j2, i3, hBn, hnn, hK0.out, hK1.out⟩
    case rest =>
     clear j1 j2 i3 hvb hx hK0 hK1 hBn hbn hnn
     obtain ⟨⟨vb', j1, hvb⟩, j2, i3, hBn, hnn, hko, hkp⟩ := hcut
     obtain ⟨za, zc, hzv⟩ := own_slice hvb
     subst hzv
     have c8 := j1.cell (j := 0) (v := .slice za NL.length zc) rfl
     have c3 := i3.cell (j := 0) (v := .slice oa NO oc) rfl
     have T1 := Lib.hid (TC.out NL (.slice za NL.length zc) wc (HO.out.carry hBn) hvb.ints hNLl)
     obtain ⟨q, hq⟩ : ∃ q, q = costL os NL := ⟨_, rfl⟩
     rw [← hq] at T1
     have HQ := Lib.hid hq
     clear hq
     gi_wp2_with fail
     refine (((callsIn_wide (n := 2)).2 T1.out).inRound ll).mono ?_
     rintro e w7 ⟨rfl, hb7⟩
     have j1 := j1.carry hb7
     have j2 := j2.carry hb7
     have i3 := i3.carry hb7
     have hvb := hvb.carry hb7
     have hB7 := hBn.trans (hb7.mono hBn.size)
     have hn7 := Nat.le_trans hnn hb7.size
     have HK7 := Lib.hid (hko.trans (keeps_of_below hb7))
     have HP7 := Lib.hid (hkp.trans (KPl.below (n₁ := V.heap.size) hb7 hBn.size))
     clear T1 c8 c3 hb7 hko hkp
     by_cases hz : q = 0
     ·have hb0 : (q == 0) = true := by rw [beq_iff_eq]; exact hz
      have hz2 : costL os NL = 0 := by rw [← HQ.out]; exact hz
      have hbest : betO os (plansL ms os) = some NL := by rw [HPOST.out]; exact betO_zero HNEW.out hz2 post (fun x _ => HPOS.out x)
      clear hz hz2
      gi_wp2
      exact ⟨HK7.out.from _, rfl, ⟨_, j1, by rw [hbest]; exact hvb⟩, j2, by rw [hbest]; rfl, i3, hB7⟩
     ·have hb0 : (q == 0) = false := by rw [beq_eq_false_iff_ne]; exact hz
      have HZ := Lib.hid (show costL os NL ≠ 0 by rw [← HQ.out]; exact hz)
      clear hz
      gi_wp2
      refine ⟨HK7.out.from _, HP7.out, ⟨_, j1, by rw [HNEW.out]; exact hvb⟩, by rw [HNEW.out]; exact j2, i3, ?_, hB7, hn7⟩
      intro x hx
      rw [HNEW.out] at hx
      cases hx
      exact HZ.out
  case done =>
   clear i3 j1 j2 iA iB
   rintro D ys W hD hS ⟨⟨vb, j1, hvb⟩, j2, i3, hne, hBW, hn1⟩ hK
   rw [hS] at hvb j2
   have hpo : planO ms os = betO os (plansL ms os) := rfl
   obtain ⟨ya, yc, hyv⟩ := own_slice hvb
   subst hyv
   cases hbo : betO os (plansL ms os) with
   | none =>
     rw [hbo] at hvb j1 j2 hpo
     have HPO := Lib.hid hpo
     have c9 := j2.cell (j := 0) (v := .bool false) rfl
     clear hpo hbo hvb j1 j2 i3 hS hne
     go_wp2
     rw [Exit.noGoto_ret]
     refine postR_mark (v := .tuple #[.slice none 0 0, .int .i64 0, .int .i64 18]) hK rfl ?_ ⟨⟨_, by rw [HPO.out]; rfl, by rw [HPO.out]; exact Ints.nil _⟩, hBW.trans (belowK_b (w := w) (Nat.le_refl _) _ D _ _ (by omega) hK rfl rfl)⟩
     simp [results, Tryz.f36, go_sem]
   | some y =>
     rw [hbo] at hvb j1 j2 hpo
     have hyl := HBL.out y hbo
     have HPO := Lib.hid hpo
     simp only [Option.getD_some, Option.isSome_some] at *
     have c9 := j2.cell (j := 0) (v := .bool true) rfl
     have c8 := j1.cell (j := 0) (v := .slice ya y.length yc) rfl
     have c3 := i3.cell (j := 0) (v := .slice oa NO oc) rfl
     have hvi := hvb.ints
     have how := HO.out.carry hBW
     have T1 := Lib.hid (fun W' (ho : Rw 3 iV W' (.slice oa NO oc) os) (hv : Ints W' (.slice ya y.length yc) y) => TC.out y (.slice ya y.length yc) W' ho hv hyl)
     obtain ⟨q, hq⟩ : ∃ q, q = costL os y := ⟨_, rfl⟩
     rw [← hq] at T1
     have HQ := Lib.hid hq
     have hW := Below.refl W.heap.size W
     clear hpo hbo hvb j1 j2 i3 hS hne hq
     go_upto_region 13 with fail
     refine wp_region_E 99 (by kernel_rfl) ?_
     obtain ⟨wz, hwz⟩ : ∃ v, v = W.drew := ⟨_, rfl⟩
     rw [← hwz]
     have hlz : Below W.heap.size W wz := by rw [hwz]; exact (Below.refl _ _).drew
     have hbz := bthen hW hlz
     have c8 := cellb c8 hlz
     have c3 := cellb c3 hlz
     have hvi := hvi.carry hlz
     have how := how.carry hlz
     clear hwz hlz
     refine zV 0 ⟨some 39, .load 63 (.tmp 8), 63, "plan.go:151", #[], none⟩ rfl ?_ (hv := fun w hE => by have c8 := cellb c8 hE; have c3 := cellb c3 hE; (try dsimp only); go_simp; try rfl)
     simp only [Act.put, zS]
     refine zV 1 ⟨some 40, .load 89 (.tmp 3), 89, "plan.go:151", #[], none⟩ rfl ?_ (hv := fun w hE => by have c8 := cellb c8 hE; have c3 := cellb c3 hE; (try dsimp only); go_simp; try rfl)
     simp only [Act.put, zS]
     refine zV 2 ⟨some 41, .load 63 (.tmp 8), 63, "plan.go:151", #[], none⟩ rfl ?_ (hv := fun w hE => by have c8 := cellb c8 hE; have c3 := cellb c3 hE; (try dsimp only); go_simp; try rfl)
     simp only [Act.put, zS]
     refine zB 3 ⟨some 42, .call ⟨.value (.func 88), #[.tmp 40, .tmp 41], #[89, 63]⟩, 3, "plan.go:151", #[⟨1, .data⟩, ⟨2, .data⟩], none⟩ (fun w hE => T1.out w (how.carry hE) (hvi.carry hE)) rfl ?_
     simp only [Act.put, zS]
     refine zV 4 ⟨some 4, .assign (.tmp 39), 63, "plan.go:151", #[⟨0, .data⟩, ⟨3, .chain⟩, ⟨0, .phase⟩, { on := 1, ground := Ground.textOnly Departure.lateStores }, { on := 2, ground := Ground.textOnly Departure.lateStores }, { on := 3, ground := Ground.textOnly Departure.lateStoresUnsure }], none⟩ rfl ?_
     simp only [Act.put, zS]
     refine zV 5 ⟨some 5, .assign (.tmp 42), 3, "plan.go:151", #[⟨3, .data⟩, ⟨4, .chain⟩, ⟨0, .phase⟩, ⟨1, .phase⟩, ⟨2, .phase⟩, ⟨3, .phase⟩, ⟨4, .phase⟩], none⟩ rfl ?_
     simp only [Act.put, zS]
     refine zV 6 ⟨some 6, .assign (.const (.int .i64 0)), 27, "plan.go:151", #[⟨5, .chain⟩, ⟨0, .phase⟩, ⟨1, .phase⟩, ⟨2, .phase⟩, ⟨3, .phase⟩, ⟨4, .phase⟩, ⟨5, .phase⟩], none⟩ rfl ?_
     simp only [Act.put, zS]
     refine wpAnyE_done (by kernel_rfl) (fun wy1 hE => ?_) _
     have hbz1 := bthen hbz hE
     have c8 := cellb c8 hE
     have c3 := cellb c3 hE
     have hvi := hvi.carry hE
     have how := how.carry hE
     clear hE
     have hb9 := hbz1
     obtain ⟨W9, hW9⟩ : ∃ v, v = wy1 := ⟨_, rfl⟩
     rw [← hW9] at hb9 hvi ⊢
     clear hW9
     have hK9 : W9.heap[D]? = some (.deferred (some [])) := (hb9.block D (Array.getElem?_eq_some_iff.1 hK).1).trans hK
     have hB9 := hBW.trans (hb9.mono hBW.size)
     have hvf : Ints (W9.putObj D (.deferred none)) (.slice ya y.length yc) y := Ints.turned hvi D hK9 rfl
     go_wp2
     rw [Exit.noGoto_ret]
     refine postR_mark (v := .tuple #[.slice ya y.length yc, .int .i64 q, .int .i64 0]) hK9 rfl ?_ ⟨⟨_, by rw [HPO.out, HQ.out]; rfl, by rw [HPO.out]; exact hvf⟩, hB9.trans (belowK_b (w := w) (Nat.le_refl _) _ D _ _ (by omega) hK9 rfl rfl)⟩
     simp [results, Tryz.f36, go_sem]
  case stop =>
   clear i3 j1 j2 iA iB
   rintro D c pre W hD - ⟨rfl, ⟨vb, j1, hvb⟩, j2, hsome, i3, hBW⟩ hK
   have hpo : planO ms os = betO os (plansL ms os) := rfl
   obtain ⟨ya, yc, hyv⟩ := own_slice hvb
   subst hyv
   cases hbo : betO os (plansL ms os) with
   | none =>
     rw [hbo] at hsome
     cases hsome
   | some y =>
     rw [hbo] at hvb j1 hpo
     have hyl := HBL.out y hbo
     have HPO := Lib.hid hpo
     simp only [Option.getD_some, Option.isSome_some] at *
     have c9 := j2.cell (j := 0) (v := .bool true) rfl
     have c8 := j1.cell (j := 0) (v := .slice ya y.length yc) rfl
     have c3 := i3.cell (j := 0) (v := .slice oa NO oc) rfl
     have hvi := hvb.ints
     have how := HO.out.carry hBW
     have T1 := Lib.hid (fun W' (ho : Rw 3 iV W' (.slice oa NO oc) os) (hv : Ints W' (.slice ya y.length yc) y) => TC.out y (.slice ya y.length yc) W' ho hv hyl)
     obtain ⟨q, hq⟩ : ∃ q, q = costL os y := ⟨_, rfl⟩
     rw [← hq] at T1
     have HQ := Lib.hid hq
     have hW := Below.refl W.heap.size W
     clear hpo hbo hvb j1 j2 i3 hsome hq
     go_upto_region 13 with fail
     refine wp_region_E 99 (by kernel_rfl) ?_
     obtain ⟨wz, hwz⟩ : ∃ v, v = W.drew := ⟨_, rfl⟩
     rw [← hwz]
     have hlz : Below W.heap.size W wz := by rw [hwz]; exact (Below.refl _ _).drew
     have hbz := bthen hW hlz
     have c8 := cellb c8 hlz
     have c3 := cellb c3 hlz
     have hvi := hvi.carry hlz
     have how := how.carry hlz
     clear hwz hlz
     refine zV 0 ⟨some 39, .load 63 (.tmp 8), 63, "plan.go:151", #[], none⟩ rfl ?_ (hv := fun w hE => by have c8 := cellb c8 hE; have c3 := cellb c3 hE; (try dsimp only); go_simp; try rfl)
     simp only [Act.put, zS]
     refine zV 1 ⟨some 40, .load 89 (.tmp 3), 89, "plan.go:151", #[], none⟩ rfl ?_ (hv := fun w hE => by have c8 := cellb c8 hE; have c3 := cellb c3 hE; (try dsimp only); go_simp; try rfl)
     simp only [Act.put, zS]
     refine zV 2 ⟨some 41, .load 63 (.tmp 8), 63, "plan.go:151", #[], none⟩ rfl ?_ (hv := fun w hE => by have c8 := cellb c8 hE; have c3 := cellb c3 hE; (try dsimp only); go_simp; try rfl)
     simp only [Act.put, zS]
     refine zB 3 ⟨some 42, .call ⟨.value (.func 88), #[.tmp 40, .tmp 41], #[89, 63]⟩, 3, "plan.go:151", #[⟨1, .data⟩, ⟨2, .data⟩], none⟩ (fun w hE => T1.out w (how.carry hE) (hvi.carry hE)) rfl ?_
     simp only [Act.put, zS]
     refine zV 4 ⟨some 4, .assign (.tmp 39), 63, "plan.go:151", #[⟨0, .data⟩, ⟨3, .chain⟩, ⟨0, .phase⟩, { on := 1, ground := Ground.textOnly Departure.lateStores }, { on := 2, ground := Ground.textOnly Departure.lateStores }, { on := 3, ground := Ground.textOnly Departure.lateStoresUnsure }], none⟩ rfl ?_
     simp only [Act.put, zS]
     refine zV 5 ⟨some 5, .assign (.tmp 42), 3, "plan.go:151", #[⟨3, .data⟩, ⟨4, .chain⟩, ⟨0, .phase⟩, ⟨1, .phase⟩, ⟨2, .phase⟩, ⟨3, .phase⟩, ⟨4, .phase⟩], none⟩ rfl ?_
     simp only [Act.put, zS]
     refine zV 6 ⟨some 6, .assign (.const (.int .i64 0)), 27, "plan.go:151", #[⟨5, .chain⟩, ⟨0, .phase⟩, ⟨1, .phase⟩, ⟨2, .phase⟩, ⟨3, .phase⟩, ⟨4, .phase⟩, ⟨5, .phase⟩], none⟩ rfl ?_
     simp only [Act.put, zS]
     refine wpAnyE_done (by kernel_rfl) (fun wy1 hE => ?_) _
     have hbz1 := bthen hbz hE
     have c8 := cellb c8 hE
     have c3 := cellb c3 hE
     have hvi := hvi.carry hE
     have how := how.carry hE
     clear hE
     have hb9 := hbz1
     obtain ⟨W9, hW9⟩ : ∃ v, v = wy1 := ⟨_, rfl⟩
     rw [← hW9] at hb9 hvi ⊢
     clear hW9
     have hK9 : W9.heap[D]? = some (.deferred (some [])) := (hb9.block D (Array.getElem?_eq_some_iff.1 hK).1).trans hK
     have hB9 := hBW.trans (hb9.mono hBW.size)
     have hvf : Ints (W9.putObj D (.deferred none)) (.slice ya y.length yc) y := Ints.turned hvi D hK9 rfl
     go_wp2
     rw [Exit.noGoto_ret]
     refine postR_mark (v := .tuple #[.slice ya y.length yc, .int .i64 q, .int .i64 0]) hK9 rfl ?_ ⟨⟨_, by rw [HPO.out, HQ.out]; rfl, by rw [HPO.out]; exact hvf⟩, hB9.trans (belowK_b (w := w) (Nat.le_refl _) _ D _ _ (by omega) hK9 rfl rfl)⟩
     simp [results, Tryz.f36, go_sem]
 ·have b1 : (E != 0) = true := by rw [bne_iff_ne]; exact h0
  obtain ⟨rfl, rfl, rfl⟩ := HE0.out h0
  clear HE0 HE1 HOK h0
  go_wp2
  rw [Exit.noGoto_ret]
  refine postR_ret (v := .tuple #[.slice none 0 0, .int .i64 0, .int .i64 PE]) ?_ rfl ⟨⟨_, rfl, Ints.nil _⟩, hB2⟩
  simp [results, Tryz.f36, go_sem]
end Go.Proofs.YtpmngcffkhbofaaGreatDoor

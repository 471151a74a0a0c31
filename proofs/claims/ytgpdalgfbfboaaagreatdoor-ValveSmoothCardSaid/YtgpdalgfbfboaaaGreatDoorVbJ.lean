/- Package valve: checkPlan. -/
import Derived.Test.YtgpdalgfbfboaaaGreatDoorVbI
namespace Go.Proofs.YtgpdalgfbfboaaaGreatDoor
set_option linter.unusedSimpArgs false
set_option linter.unusedVariables false
open Go.RowKit
def plnG (ms : List Mo) (os : List I3) (i : Nat) (k : Int) : Int := if k < 0 ∨ (os.length : Int) ≤ k then 10 else whenE (!perB (os[k.toNat]?.getD (0, 0, 0)) (ms[i]?.getD noM)) 14
def plnE2 (ms : List Mo) (os : List I3) (pl : List Int) : Int := eachE (plnG ms os) pl
def plnE (ms : List Mo) (os : List I3) (pl : List Int) : Int := if pl.length = ms.length then (if plnE2 ms os pl = 0 then whenE (!fitB ms os pl) 20 else plnE2 ms os pl) else 2
theorem Tryz.enterCkP1 (args : Array Value) (w : World) : Sem.run Tryz.prog (callFunc 134 args) w = .ok (.enter 134 args) w :=
 MuLone.run_callFunc_enter Tryz.func134 (by kernel_rfl) rfl args w
set_option maxRecDepth 100000 in
set_option maxHeartbeats 2000000 in
theorem checkPlan1_any (i : Nat) (k : Int) (vm vo : Value) (ms : List Mo) (os : List I3) (B C : Nat) (w : World) (hi : i < ms.length) (hml : ms.length ≤ 1000) (hol : os.length ≤ 1000) (hB : w.cell? ⟨B, 0, none⟩ = some vo) (hC : w.cell? ⟨C, 0, none⟩ = some vm) (hm : Rw 4 mV w vm ms) (ho : Rw 3 iV w vo os) :
 Calls Tryz.prog 134 #[.int .i64 i, .int .i64 k, .pointer (some ⟨B, 0, none⟩), .pointer (some ⟨C, 0, none⟩)] w fun r w' => r = .returned (.int .i64 (plnG ms os i k)) ∧ Below w.heap.size w w' := by
 obtain ⟨oa, oc, rfl, hoc⟩ := ho.slice
 by_cases hk : k < 0
 ·have he : plnG ms os i k = 10 := by unfold plnG; rw [if_pos (Or.inl hk)]
  have b0 : decide (k < 0) = true := decide_eq_true hk
  rw [he]
  clear he hk hm ho hoc
  go_enter Tryz.func134, Tryz.ntmps134
  go_wp2
  go_ret
  exact ⟨rfl, Below.refl _ _⟩
 ·have b0 : decide (k < 0) = false := decide_eq_false hk
  by_cases hk2 : (os.length : Int) ≤ k
  ·have he : plnG ms os i k = 10 := by unfold plnG; rw [if_pos (Or.inr hk2)]
   have b1 : decide ((os.length : Int) ≤ k) = true := decide_eq_true hk2
   rw [he]
   clear he hk hk2 hm ho hoc
   go_enter Tryz.func134, Tryz.ntmps134
   go_wp2
   go_ret
   exact ⟨rfl, Below.refl _ _⟩
  ·have b1 : decide ((os.length : Int) ≤ k) = false := decide_eq_false hk2
   obtain ⟨x, hx⟩ : ∃ x, os[k.toNat]? = some x := ⟨_, List.getElem?_eq_getElem (by omega)⟩
   obtain ⟨m, hmk⟩ : ∃ m, ms[i]? = some m := ⟨_, List.getElem?_eq_getElem hi⟩
   have he : plnG ms os i k = whenE (!perB x m) 14 := by unfold plnG; rw [if_neg (by omega), hx, hmk]; rfl
   rw [he]
   obtain ⟨ob, oo, ocap, hoe, hocs⟩ := ho.head (by omega)
   simp only [Value.slice.injEq] at hoe
   obtain ⟨rfl, -, rfl⟩ := hoe
   obtain ⟨mb, mo, mcap, rfl, hmcs⟩ := hm.head (by omega)
   obtain ⟨o0, o1, o2⟩ := rw3 (hocs _ x hx) (show iV x = [.int .i64 x.1, .int .i64 x.2.1, .int .i64 x.2.2] from rfl)
   obtain ⟨m0, m1, m2, m3⟩ := rw4 (hmcs i m hmk) (show mV m = [.string m.1, .int .i64 m.2.1, .int .i64 m.2.2.1, .int .i64 m.2.2.2] from rfl)
   obtain ⟨x0, x1, x2⟩ := x
   obtain ⟨s, y1, y2, y3⟩ := m
   dsimp only at o0 o1 o2 m0 m1 m2 m3
   have TP := Lib.hid (fun W => permits_any x0 x1 x2 s y1 y2 y3 W)
   obtain ⟨A, hA⟩ : ∃ A, A = perB (x0, x1, x2) (s, y1, y2, y3) := ⟨_, rfl⟩
   rw [← hA] at TP ⊢
   have TW := Lib.hid (fun W => when_any (!A) 14 W)
   obtain ⟨R, hR⟩ : ∃ z, z = whenE (!A) 14 := ⟨_, rfl⟩
   rw [← hR] at TW ⊢
   have hdi : (i : Int) < (ms.length : Int) := by omega
   have hdk : k < (os.length : Int) := by omega
   have hk0 : 0 ≤ k := by omega
   obtain ⟨NM, hNM⟩ : ∃ N, N = ms.length := ⟨_, rfl⟩
   obtain ⟨NO, hNO⟩ : ∃ N, N = os.length := ⟨_, rfl⟩
   rw [← hNM] at hC hdi
   rw [← hNO] at hB hdk b1
   have hW := Below.refl w.heap.size w
   clear he hk hk2 hx hmk hocs hmcs hA hR hm ho hi hNM hNO hml hol hoc
   go_enter Tryz.func134, Tryz.ntmps134
   go_upto_region 3 with fail
   refine wp_region_E 11 (by kernel_rfl) ?_
   obtain ⟨wz, hwz⟩ : ∃ v, v = w.drew := ⟨_, rfl⟩
   rw [← hwz]
   have hlz : Below w.heap.size w wz := by rw [hwz]; exact (Below.refl _ _).drew
   have hbz := bthen hW hlz
   have hB := cellb hB hlz
   have hC := cellb hC hlz
   have o0 := cellb o0 hlz
   have o1 := cellb o1 hlz
   have o2 := cellb o2 hlz
   have m0 := cellb m0 hlz
   have m1 := cellb m1 hlz
   have m2 := cellb m2 hlz
   have m3 := cellb m3 hlz
   clear hwz hlz
   refine zT 0 ⟨some 15, .load 93 (.tmp 2), 93, "plan.go:73", #[], none⟩ (v := ?_) rfl (Or.inl ⟨by rfl, ?_⟩) ?_
   rotate_left
   ·(intro w hE; have hB := cellb hB hE; have hC := cellb hC hE; have o0 := cellb o0 hE; have o1 := cellb o1 hE; have o2 := cellb o2 hE; have m0 := cellb m0 hE; have m1 := cellb m1 hE; have m2 := cellb m2 hE; have m3 := cellb m3 hE; (try dsimp only); go_simp); (try with_reducible rfl)
   try simp only [Act.put, zS]
   refine zT 1 ⟨some 16, .move (.tmp 1), 3, "plan.go:73", #[], none⟩ (v := ?_) rfl (Or.inl ⟨by rfl, ?_⟩) ?_
   rotate_left
   ·(intro w hE; have hB := cellb hB hE; have hC := cellb hC hE; have o0 := cellb o0 hE; have o1 := cellb o1 hE; have o2 := cellb o2 hE; have m0 := cellb m0 hE; have m1 := cellb m1 hE; have m2 := cellb m2 hE; have m3 := cellb m3 hE; (try dsimp only); go_simp); (try with_reducible rfl)
   try simp only [Act.put, zS]
   refine zT 2 ⟨some 17, .indexAddr 93 (.tmp 15) (.tmp 16), 0, "plan.go:73", #[⟨0, .data⟩, ⟨1, .data⟩], none⟩ (v := ?_) rfl (Or.inl ⟨by rfl, ?_⟩) ?_
   rotate_left
   ·(intro w hE; have hB := cellb hB hE; have hC := cellb hC hE; have o0 := cellb o0 hE; have o1 := cellb o1 hE; have o2 := cellb o2 hE; have m0 := cellb m0 hE; have m1 := cellb m1 hE; have m2 := cellb m2 hE; have m3 := cellb m3 hE; (try dsimp only); go_simp); (try with_reducible rfl)
   try simp only [Act.put, zS]
   refine zT 3 ⟨some 18, .load 152 (.tmp 17), 152, "plan.go:73", #[⟨2, .data⟩], none⟩ (v := ?_) rfl (Or.inl ⟨by rfl, ?_⟩) ?_
   rotate_left
   ·(intro w hE; have hB := cellb hB hE; have hC := cellb hC hE; have o0 := cellb o0 hE; have o1 := cellb o1 hE; have o2 := cellb o2 hE; have m0 := cellb m0 hE; have m1 := cellb m1 hE; have m2 := cellb m2 hE; have m3 := cellb m3 hE; (try dsimp only); go_simp); (try with_reducible rfl)
   try simp only [Act.put, zS]
   refine zT 4 ⟨some 19, .load 91 (.tmp 3), 91, "plan.go:73", #[], none⟩ (v := ?_) rfl (Or.inl ⟨by rfl, ?_⟩) ?_
   rotate_left
   ·(intro w hE; have hB := cellb hB hE; have hC := cellb hC hE; have o0 := cellb o0 hE; have o1 := cellb o1 hE; have o2 := cellb o2 hE; have m0 := cellb m0 hE; have m1 := cellb m1 hE; have m2 := cellb m2 hE; have m3 := cellb m3 hE; (try dsimp only); go_simp); (try with_reducible rfl)
   try simp only [Act.put, zS]
   refine zT 5 ⟨some 20, .move (.tmp 0), 3, "plan.go:73", #[], none⟩ (v := ?_) rfl (Or.inl ⟨by rfl, ?_⟩) ?_
   rotate_left
   ·(intro w hE; have hB := cellb hB hE; have hC := cellb hC hE; have o0 := cellb o0 hE; have o1 := cellb o1 hE; have o2 := cellb o2 hE; have m0 := cellb m0 hE; have m1 := cellb m1 hE; have m2 := cellb m2 hE; have m3 := cellb m3 hE; (try dsimp only); go_simp); (try with_reducible rfl)
   try simp only [Act.put, zS]
   refine zT 6 ⟨some 21, .indexAddr 91 (.tmp 19) (.tmp 20), 0, "plan.go:73", #[⟨4, .data⟩, ⟨5, .data⟩], none⟩ (v := ?_) rfl (Or.inl ⟨by rfl, ?_⟩) ?_
   rotate_left
   ·(intro w hE; have hB := cellb hB hE; have hC := cellb hC hE; have o0 := cellb o0 hE; have o1 := cellb o1 hE; have o2 := cellb o2 hE; have m0 := cellb m0 hE; have m1 := cellb m1 hE; have m2 := cellb m2 hE; have m3 := cellb m3 hE; (try dsimp only); go_simp); (try with_reducible rfl)
   try simp only [Act.put, zS]
   refine zT 7 ⟨some 22, .load 150 (.tmp 21), 150, "plan.go:73", #[⟨6, .data⟩], none⟩ (v := ?_) rfl (Or.inl ⟨by rfl, ?_⟩) ?_
   rotate_left
   ·(intro w hE; have hB := cellb hB hE; have hC := cellb hC hE; have o0 := cellb o0 hE; have o1 := cellb o1 hE; have o2 := cellb o2 hE; have m0 := cellb m0 hE; have m1 := cellb m1 hE; have m2 := cellb m2 hE; have m3 := cellb m3 hE; (try dsimp only); go_simp); (try with_reducible rfl)
   try simp only [Act.put, zS]
   refine zC 8 ⟨some 23, .call ⟨.value (.func 90), #[.tmp 18, .tmp 22], #[152, 150]⟩, 4, "plan.go:73", #[⟨3, .data⟩, ⟨7, .data⟩], none⟩ (fun w hE => TP.out w) rfl (by rfl) (fun w hE => by (try dsimp only); go_simp) ?_
   try simp only [Act.put, zS]
   refine zT 9 ⟨some 24, .unOp .not 4 (.tmp 23), 4, "plan.go:73", #[⟨8, .data⟩], none⟩ (v := ?_) rfl (Or.inl ⟨by rfl, ?_⟩) ?_
   rotate_left
   ·(intro w hE; have hB := cellb hB hE; have hC := cellb hC hE; have o0 := cellb o0 hE; have o1 := cellb o1 hE; have o2 := cellb o2 hE; have m0 := cellb m0 hE; have m1 := cellb m1 hE; have m2 := cellb m2 hE; have m3 := cellb m3 hE; (try dsimp only); go_simp); (try with_reducible rfl)
   try simp only [Act.put, zS]
   refine zC 10 ⟨some 25, .call ⟨.value (.func 80), #[.tmp 24, .const (.int .i64 14)], #[4, 27]⟩, 27, "plan.go:73", #[⟨9, .data⟩, ⟨8, .chain⟩], none⟩ (fun w hE => ofPure (TW.out w)) rfl (by rfl) (fun w hE => by (try dsimp only); go_simp) ?_
   try simp only [Act.put, zS]
   refine wpAnyE_one (i := 11) (o := ⟨some 6, .assign (.tmp 25), 27, "plan.go:73", #[⟨10, .data⟩, ⟨10, .chain⟩, ⟨0, .phase⟩, ⟨1, .phase⟩, ⟨2, .phase⟩, ⟨3, .phase⟩, ⟨4, .phase⟩, ⟨5, .phase⟩, ⟨6, .phase⟩, ⟨7, .phase⟩, ⟨8, .phase⟩, ⟨9, .phase⟩, ⟨10, .phase⟩], none⟩) (by kernel_rfl) rfl (fun wy1 hE K hK => ?_)
   have hB := cellb hB hE
   have hC := cellb hC hE
   have o0 := cellb o0 hE
   have o1 := cellb o1 hE
   have o2 := cellb o2 hE
   have m0 := cellb m0 hE
   have m1 := cellb m1 hE
   have m2 := cellb m2 hE
   have m3 := cellb m3 hE
   have hbz1 := bthen hbz hE
   go_simp
   refine hK _ _ (fun _ => Below.refl _ _) ?_
   clear hK K hE
   try simp only [Act.put, zS]
   refine wpAnyE_done (by kernel_rfl) (fun wy2 hE => ?_) _
   have hbz2 := bthen hbz1 hE
   have hB := cellb hB hE
   have hC := cellb hC hE
   have o0 := cellb o0 hE
   have o1 := cellb o1 hE
   have o2 := cellb o2 hE
   have m0 := cellb m0 hE
   have m1 := cellb m1 hE
   have m2 := cellb m2 hE
   have m3 := cellb m3 hE
   clear hE
   have hB := hbz2
   obtain ⟨W9, hW9⟩ : ∃ v, v = wy2 := ⟨_, rfl⟩
   rw [← hW9] at hB ⊢
   clear hW9
   go_wp2
   go_ret
   exact ⟨rfl, hB⟩
set_option maxRecDepth 100000 in
set_option maxHeartbeats 2000000 in
theorem checkPlan_any (vm vo vp : Value) (ms : List Mo) (os : List I3) (pl : List Int) (w : World) (hml : ms.length ≤ 1000) (hol : os.length ≤ 1000) (hpl : pl.length ≤ 1000000) (hm : Rw 4 mV w vm ms) (ho : Rw 3 iV w vo os) (hp : Ints w vp pl)
 (hor : ∀ o ∈ os, 0 ≤ o.2.1 ∧ o.2.1 ≤ 100) (hmr : ∀ m ∈ ms, 0 ≤ m.2.2.2 ∧ m.2.2.2 ≤ 100) :
 Calls Tryz.prog 98 #[vm, vo, vp] w fun r w' => r = .returned (.int .i64 (plnE ms os pl)) ∧ Below w.heap.size w w' := by
 have h1 : pl.length ≠ ms.length → plnE ms os pl = 2 := fun h => by unfold plnE; rw [if_neg h]
 have h2 : pl.length = ms.length → plnE2 ms os pl ≠ 0 → plnE ms os pl = plnE2 ms os pl := fun h h2 => by unfold plnE; rw [if_pos h, if_neg h2]
 have h3 : pl.length = ms.length → plnE2 ms os pl = 0 → plnE ms os pl = whenE (!fitB ms os pl) 20 := fun h h2 => by unfold plnE; rw [if_pos h, if_pos h2]
 have hop : plnE2 ms os pl = 0 → ∀ k ∈ pl, 0 ≤ k ∧ k < os.length := fun h k hk => by
  obtain ⟨j, hj⟩ := List.getElem?_of_mem hk
  have := eachE_zero h j k hj
  unfold plnG at this
  split at this
  ·cases this
  ·omega
 have TE := Lib.hid (fun (hlen : pl.length = ms.length) (B C : Nat) (W : World) (hB : W.cell? ⟨B, 0, none⟩ = some vo) (hC : W.cell? ⟨C, 0, none⟩ = some vm) (hm : Rw 4 mV W vm ms) (ho : Rw 3 iV W vo os) (hp : Ints W vp pl) =>
  eachI_any 134 #[.pointer (some ⟨B, 0, none⟩), .pointer (some ⟨C, 0, none⟩)] Tryz.enterCkP1 (plnG ms os) (fun _ _ => True) W.heap.size vp pl W (by omega) (Nat.le_refl _) (fun w1 h1 => hp.carry h1) trivial (fun _ _ _ _ _ => trivial) (fun k x hx w1 h1 _ => (checkPlan1_any k x vm vo ms os B C w1 (by have := (List.getElem?_eq_some_iff.1 hx).1; omega) hml hol (cellb hB h1) (cellb hC h1) (hm.carry h1) (ho.carry h1)).mono fun r w2 ⟨hr, hb⟩ => ⟨hr, hb.mono h1.size, fun _ => trivial⟩))
 have TX := Lib.hid (fun (hlen : pl.length = ms.length) (hz : plnE2 ms os pl = 0) (W : World) (hm : Rw 4 mV W vm ms) (ho : Rw 3 iV W vo os) (hp : Ints W vp pl) => fits_any vm vo vp ms os pl W hm ho hp hml hol (by omega) (hop hz) hor hmr)
 have hE2 : plnE2 ms os pl = eachE (plnG ms os) pl := rfl
 rw [← hE2] at TE
 obtain ⟨A, hA⟩ : ∃ z, z = fitB ms os pl := ⟨_, rfl⟩
 rw [← hA] at TX h3
 have TW := Lib.hid (fun W => when_any (!A) 20 W)
 obtain ⟨R, hR⟩ : ∃ z, z = whenE (!A) 20 := ⟨_, rfl⟩
 rw [← hR] at TW h3
 obtain ⟨E2, hE2'⟩ : ∃ z, z = plnE2 ms os pl := ⟨_, rfl⟩
 obtain ⟨E, hE⟩ : ∃ z, z = plnE ms os pl := ⟨_, rfl⟩
 rw [← hE2'] at TE TX h2 h3
 rw [← hE] at h1 h2 h3 ⊢
 obtain ⟨ma, mc, rfl, hmc⟩ := hm.slice
 obtain ⟨oa, oc, rfl, hoc⟩ := ho.slice
 obtain ⟨pa, pc, hpe, -⟩ := id hp
 subst hpe
 obtain ⟨NM, hNM⟩ : ∃ N, N = ms.length := ⟨_, rfl⟩
 obtain ⟨NO, hNO⟩ : ∃ N, N = os.length := ⟨_, rfl⟩
 obtain ⟨NP, hNP⟩ : ∃ N, N = pl.length := ⟨_, rfl⟩
 rw [← hNM] at TE TX hm h1 h2 h3 ⊢
 rw [← hNO] at TE TX ho ⊢
 rw [← hNP] at TE TX hp h1 h2 h3 ⊢
 have H1 := Lib.hid h1
 have H2 := Lib.hid h2
 have H3 := Lib.hid h3
 clear h1 h2 h3 hop hE2 hA hR hE2' hE hNM hNO hNP hmc hoc hor hmr hml hol hpl
 by_cases hlen : NP = NM
 ·have b0 : ((NP : Int) != (NM : Int)) = false := by rw [bne_eq_false_iff_eq]; omega
  have TE2 := Lib.hid (TE.out hlen)
  have TX2 := Lib.hid (TX.out hlen)
  have H2z := Lib.hid (H2.out hlen)
  have H3z := Lib.hid (H3.out hlen)
  clear TE TX H1 H2 H3 hlen
  go_enter Tryz.func98, Tryz.ntmps98
  go_upto_region 1 with fail
  obtain ⟨W1, hW1⟩ : ∃ v, v = World.alloc w (Obj.cells #[.slice ma NM mc] 91) := ⟨_, rfl⟩
  have kW1 : Below w.heap.size w W1 := by rw [hW1]; exact below_new _ _
  have iW1 : Blk W1 (w.heap.size) 91 [.slice ma NM mc] := by rw [hW1]; exact Blk.new _ _ _
  have sW1 : W1.heap.size = w.heap.size + 1 := by rw [hW1]; simp
  rw [← hW1]
  clear hW1
  obtain ⟨W2, hW2⟩ : ∃ v, v = World.alloc W1 (Obj.cells #[.slice oa NO oc] 93) := ⟨_, rfl⟩
  have kW2 : Below W1.heap.size W1 W2 := by rw [hW2]; exact below_new _ _
  have iW2 : Blk W2 (w.heap.size + 1) 93 [.slice oa NO oc] := by rw [hW2, ← sW1]; exact Blk.new _ _ _
  have sW2 : W2.heap.size = w.heap.size + 1 + 1 := by rw [hW2]; simp [sW1]
  rw [← hW2]
  clear hW2
  have hB := bthen kW1 kW2
  have c0 := (iW1.carry kW2).cell (j := 0) (v := .slice ma NM mc) rfl
  have c1 := iW2.cell (j := 0) (v := .slice oa NO oc) rfl
  replace hm := hm.carry hB
  replace ho := ho.carry hB
  replace hp := hp.carry hB
  clear iW1 iW2 sW1 sW2 kW1 kW2
  go_wp2_with fail
  refine (TE2.out _ _ W2 c1 c0 hm ho hp).mono ?_
  rintro e w3 ⟨rfl, hb3⟩
  have c0 := cellb c0 hb3
  have c1 := cellb c1 hb3
  replace hm := hm.carry hb3
  replace ho := ho.carry hb3
  replace hp := hp.carry hb3
  replace hB := bthen hB hb3
  clear hb3 TE2
  by_cases h0 : E2 = 0
  ·subst h0
   obtain rfl := H3z.out (by trivial)
   have TX3 := Lib.hid (TX2.out (by trivial) w3 hm ho hp)
   clear TX2 H2z H3z
   go_wp2_with fail
   refine TX3.out.mono ?_
   rintro e w4 ⟨rfl, hb4⟩
   go_wp2_with fail
   refine (TW.out w4).mono ?_
   rintro e w5 ⟨rfl, rfl⟩
   go_wp2
   go_ret
   exact ⟨rfl, bthen hB hb4⟩
  ·obtain rfl := H2z.out h0
   have b1 : (E != 0) = true := by rw [bne_iff_ne]; exact h0
   clear h0 TX2 H2z H3z
   go_wp2
   go_ret
   exact ⟨rfl, hB⟩
 ·have b0 : ((NP : Int) != (NM : Int)) = true := by rw [bne_iff_ne]; omega
  obtain rfl := H1.out hlen
  clear hlen TE TX H1 H2 H3
  go_enter Tryz.func98, Tryz.ntmps98
  go_upto_region 1 with fail
  obtain ⟨W1, hW1⟩ : ∃ v, v = World.alloc w (Obj.cells #[.slice ma NM mc] 91) := ⟨_, rfl⟩
  have kW1 : Below w.heap.size w W1 := by rw [hW1]; exact below_new _ _
  have iW1 : Blk W1 (w.heap.size) 91 [.slice ma NM mc] := by rw [hW1]; exact Blk.new _ _ _
  have sW1 : W1.heap.size = w.heap.size + 1 := by rw [hW1]; simp
  rw [← hW1]
  clear hW1
  obtain ⟨W2, hW2⟩ : ∃ v, v = World.alloc W1 (Obj.cells #[.slice oa NO oc] 93) := ⟨_, rfl⟩
  have kW2 : Below W1.heap.size W1 W2 := by rw [hW2]; exact below_new _ _
  have iW2 : Blk W2 (w.heap.size + 1) 93 [.slice oa NO oc] := by rw [hW2, ← sW1]; exact Blk.new _ _ _
  have sW2 : W2.heap.size = w.heap.size + 1 + 1 := by rw [hW2]; simp [sW1]
  rw [← hW2]
  clear hW2
  have hB := bthen kW1 kW2
  have c0 := (iW1.carry kW2).cell (j := 0) (v := .slice ma NM mc) rfl
  clear iW1 iW2 sW1 sW2 kW1 kW2
  go_wp2
  go_ret
  exact ⟨rfl, hB⟩
end Go.Proofs.YtgpdalgfbfboaaaGreatDoor

/- Package valve: CheckPrices. -/
import Derived.Test.YtpmngcffkhbofaaGreatDoorVaU
namespace Go.Proofs.YtpmngcffkhbofaaGreatDoor
set_option linter.unusedSimpArgs false
set_option linter.unusedVariables false
open Go.RowKit
def sumK (ps : List Int) : Nat → Int
 | 0 => 0
 | k + 1 => sumK ps k + ps[k]?.getD 0
theorem sumK_rng (ps : List Int) (hp : ∀ x ∈ ps, 0 ≤ x ∧ x ≤ 1000000) (k : Nat) : 0 ≤ sumK ps k ∧ sumK ps k ≤ 1000000 * (k : Int) := by
 induction k with
 | zero => simp [sumK]
 | succ k ih =>
   simp only [sumK]
   have h2 : 0 ≤ ps[k]?.getD 0 ∧ ps[k]?.getD 0 ≤ 1000000 := by
    cases hq : ps[k]? with
    | none => simp
    | some y => exact hp y (List.mem_of_getElem? hq)
   omega
def prE1 (ms : List Mo) (os : List I3) (ps : List Int) : Int := firstE [bothE ms os, whenE ((ps.length : Int) != (ms.length : Int)) 2]
def prE2 (ps : List Int) : Int := eachE (fun _ n => withinE n 0 1000000) ps
def prA (ms : List Mo) (os : List I3) (ps : List Int) : Bool := os.any fun o => decide (o.2.2 < chgS o ms ps)
def prE (ms : List Mo) (os : List I3) (ps : List Int) : Int := if prE1 ms os ps = 0 then (if prE2 ps = 0 then (if prA ms os ps = true then 19 else 0) else prE2 ps) else prE1 ms os ps
def prR (ms : List Mo) (os : List I3) (ps : List Int) : Int := if prE ms os ps = 0 then sumK ps ps.length else 0
theorem Tryz.enterCP2 (args : Array Value) (w : World) : Sem.run Tryz.prog (callFunc 99 args) w = .ok (.enter 99 args) w :=
 MuLone.run_callFunc_enter Tryz.func99 (by kernel_rfl) rfl args w
set_option maxHeartbeats 1000000 in
theorem CheckPrices2_any (x0 x1 x2 : Int) (vm vp : Value) (ms : List Mo) (ps : List Int) (B C : Nat) (w : World) (hB : w.cell? ⟨B, 0, none⟩ = some vm) (hC : w.cell? ⟨C, 0, none⟩ = some vp) (hm : Rw 4 mV w vm ms) (hp : Ints w vp ps) (hml : ps.length ≤ ms.length) (hpl : ms.length ≤ 1000) (hpr : ∀ x ∈ ps, -1000000000 ≤ x ∧ x ≤ 1000000000) :
 Calls Tryz.prog 99 #[.agg #[.int .i64 x0, .int .i64 x1, .int .i64 x2], .pointer (some ⟨B, 0, none⟩), .pointer (some ⟨C, 0, none⟩)] w fun r w' => r = .returned (.bool (decide (x2 < chgS (x0, x1, x2) ms ps))) ∧ Below w.heap.size w w' := by
 have TC := Lib.hid (fun W (h1 : Rw 4 mV W vm ms) (h2 : Ints W vp ps) => charged_any x0 x1 x2 vm vp ms ps W h1 h2 hml hpl hpr)
 obtain ⟨S, hS⟩ : ∃ S, S = chgS (x0, x1, x2) ms ps := ⟨_, rfl⟩
 rw [← hS] at TC ⊢
 obtain ⟨ma, mc, rfl, hmc⟩ := hm.slice
 obtain ⟨pa, pc, hpe, -⟩ := id hp
 subst hpe
 obtain ⟨NM, hNM⟩ : ∃ N, N = ms.length := ⟨_, rfl⟩
 obtain ⟨NP, hNP⟩ : ∃ N, N = ps.length := ⟨_, rfl⟩
 rw [← hNM] at TC hm hB hmc
 rw [← hNP] at TC hp hC
 clear hS hNM hNP hmc hml hpl hpr
 go_enter Tryz.func99, Tryz.ntmps99
 go_upto_region 1 with fail
 obtain ⟨W1, hW1⟩ : ∃ v, v = World.alloc w (Obj.cells #[.int .i64 x0, .int .i64 x1, .int .i64 x2] 165) := ⟨_, rfl⟩
 have kW1 : Below w.heap.size w W1 := by rw [hW1]; exact below_new _ _
 have iW1 : Blk W1 (w.heap.size) 165 [.int .i64 x0, .int .i64 x1, .int .i64 x2] := by rw [hW1]; exact Blk.new _ _ _
 have sW1 : W1.heap.size = w.heap.size + 1 := by rw [hW1]; simp
 rw [← hW1]
 clear hW1
 have c0 := iW1.cell (j := 0) (v := .int .i64 x0) rfl
 have c1 := iW1.cell (j := 1) (v := .int .i64 x1) rfl
 have c2 := iW1.cell (j := 2) (v := .int .i64 x2) rfl
 have cB := cellb hB kW1
 have cC := cellb hC kW1
 have hbel := kW1
 replace hm := hm.carry kW1
 replace hp := hp.carry kW1
 clear iW1 sW1 kW1 hB hC
 refine wp_region_E 7 (by kernel_rfl) ?_
 obtain ⟨wz, hwz⟩ : ∃ v, v = W1.drew := ⟨_, rfl⟩
 rw [← hwz]
 have hlz : Below W1.heap.size W1 wz := by rw [hwz]; exact (Below.refl _ _).drew
 have hbz := bthen hbel hlz
 have c0 := cellb c0 hlz
 have c1 := cellb c1 hlz
 have c2 := cellb c2 hlz
 have cB := cellb cB hlz
 have cC := cellb cC hlz
 have hm := hm.carry hlz
 have hp := hp.carry hlz
 clear hwz hlz
 refine zV 0 ⟨some 5, .load 165 (.tmp 3), 165, "plan.go:193", #[], none⟩ rfl ?_ (hv := fun w hE => by have c0 := cellb c0 hE; have c1 := cellb c1 hE; have c2 := cellb c2 hE; have cB := cellb cB hE; have cC := cellb cC hE; (try dsimp only); go_simp; try rfl)
 simp only [Act.put, zS]
 refine zV 1 ⟨some 6, .load 87 (.tmp 1), 87, "plan.go:193", #[], none⟩ rfl ?_ (hv := fun w hE => by have c0 := cellb c0 hE; have c1 := cellb c1 hE; have c2 := cellb c2 hE; have cB := cellb cB hE; have cC := cellb cC hE; (try dsimp only); go_simp; try rfl)
 simp only [Act.put, zS]
 refine zV 2 ⟨some 7, .load 63 (.tmp 2), 63, "plan.go:193", #[], none⟩ rfl ?_ (hv := fun w hE => by have c0 := cellb c0 hE; have c1 := cellb c1 hE; have c2 := cellb c2 hE; have cB := cellb cB hE; have cC := cellb cC hE; (try dsimp only); go_simp; try rfl)
 simp only [Act.put, zS]
 refine zV 4 ⟨some 9, .fieldAddr 165 (.tmp 3) 2, 0, "plan.go:193", #[], none⟩ rfl ?_
 simp only [Act.put, zS]
 refine zV 5 ⟨some 10, .load 3 (.tmp 9), 3, "plan.go:193", #[⟨4, .data⟩], none⟩ rfl ?_ (hv := fun w hE => by have c0 := cellb c0 hE; have c1 := cellb c1 hE; have c2 := cellb c2 hE; have cB := cellb cB hE; have cC := cellb cC hE; (try dsimp only); go_simp; try rfl)
 simp only [Act.put, zS]
 refine zB 3 ⟨some 8, .call ⟨.value (.func 96), #[.tmp 5, .tmp 6, .tmp 7], #[165, 87, 63]⟩, 3, "plan.go:193", #[⟨0, .data⟩, ⟨1, .data⟩, ⟨2, .data⟩], none⟩ (fun w hE => TC.out w (hm.carry hE) (hp.carry hE)) rfl ?_
 simp only [Act.put, zS]
 refine zV 6 ⟨some 11, .binOp .gtr 3 (.tmp 8) (.tmp 10) 3, 4, "plan.go:193", #[⟨3, .data⟩, ⟨5, .data⟩], none⟩ rfl ?_
 simp only [Act.put, zS]
 refine wpAnyE_one (i := 7) (o := ⟨some 4, .assign (.tmp 11), 4, "plan.go:193", #[⟨6, .data⟩, ⟨3, .chain⟩, ⟨0, .phase⟩, ⟨1, .phase⟩, ⟨2, .phase⟩, ⟨3, .phase⟩, ⟨4, .phase⟩, ⟨5, .phase⟩, ⟨6, .phase⟩], none⟩) (by kernel_rfl) rfl (fun wy1 hE K hK => ?_)
 have c0 := cellb c0 hE
 have c1 := cellb c1 hE
 have c2 := cellb c2 hE
 have cB := cellb cB hE
 have cC := cellb cC hE
 have hm := hm.carry hE
 have hp := hp.carry hE
 have hbz1 := bthen hbz hE
 go_simp
 refine hK _ _ (fun _ => Below.refl _ _) ?_
 clear hK K hE
 try simp only [Act.put, zS]
 refine wpAnyE_done (by kernel_rfl) (fun wy2 hE => ?_) _
 have hbz2 := bthen hbz1 hE
 have c0 := cellb c0 hE
 have c1 := cellb c1 hE
 have c2 := cellb c2 hE
 have cB := cellb cB hE
 have cC := cellb cC hE
 have hm := hm.carry hE
 have hp := hp.carry hE
 clear hE
 have hB := hbz2
 obtain ⟨W9, hW9⟩ : ∃ v, v = wy2 := ⟨_, rfl⟩
 rw [← hW9] at hB ⊢
 clear hW9
 go_wp2
 go_ret
 exact ⟨rfl, hB⟩
set_option maxRecDepth 100000 in
set_option maxHeartbeats 4000000 in
theorem CheckPrices_any (vm vo vp : Value) (ms : List Mo) (os : List I3) (ps : List Int) (w : World) (hl : ms.length ≤ 1000) (hls : ∀ m ∈ ms, m.1.size ≤ 1000000) (hol : os.length ≤ 1000) (hpl : ps.length ≤ 1000000) (hm : Rw 4 mV w vm ms) (ho : Rw 3 iV w vo os) (hp : Ints w vp ps) :
 Calls Tryz.prog 40 #[vm, vo, vp] w fun r w' => r = .returned (.tuple #[.int .i64 (prR ms os ps), .int .i64 (prE ms os ps)]) ∧ Below w.heap.size w w' := by
 have TC := Lib.hid (fun W (h1 : Rw 4 mV W vm ms) (h2 : Rw 3 iV W vo os) => check_any vm vo ms os W hl hls hol h1 h2)
 have TE := Lib.hid (fun W (h : Ints W vp ps) => eachI_any 97 #[] Tryz.enterCP1 (fun _ n => withinE n 0 1000000) (fun _ _ => True) W.heap.size vp ps W (by omega) (Nat.le_refl _) (fun w1 h1 => h.carry h1) trivial (fun _ _ _ _ _ => trivial) (fun k x hx w1 h1 _ => (CheckPrices1_any k x w1).mono fun r w2 ⟨hr, hb⟩ => ⟨hr, by rw [← hb]; exact Below.refl _ _, fun _ => trivial⟩))
 have hE1 : prE1 ms os ps = firstE [bothE ms os, whenE ((ps.length : Int) != (ms.length : Int)) 2] := rfl
 have hE2 : prE2 ps = eachE (fun _ n => withinE n 0 1000000) ps := rfl
 have hok1 : prE1 ms os ps = 0 → ps.length = ms.length := fun h => by
  rw [hE1, firstE_cons0, firstE_cons0, whenE_zero (by decide)] at h
  have := h.2.1
  simp only [bne_eq_false_iff_eq] at this
  omega
 have hok2 : prE2 ps = 0 → ∀ x ∈ ps, 0 ≤ x ∧ x ≤ 1000000 := fun h x hx => by
  rw [hE2] at h
  obtain ⟨k, hk⟩ := List.getElem?_of_mem hx
  have := eachE_zero h k x hk
  rwa [withinE_zero] at this
 have TX := Lib.hid (fun (h1 : prE1 ms os ps = 0) (h2 : prE2 ps = 0) (B C : Nat) (W : World) (hB : W.cell? ⟨B, 0, none⟩ = some vm) (hC : W.cell? ⟨C, 0, none⟩ = some vp) (hm : Rw 4 mV W vm ms) (ho : Rw 3 iV W vo os) (hp : Ints W vp ps) =>
  ContainsO_any 99 #[.pointer (some ⟨B, 0, none⟩), .pointer (some ⟨C, 0, none⟩)] Tryz.enterCP2 (fun o => decide (o.2.2 < chgS o ms ps)) vo os W (by omega) ho (fun x _ w1 hE => CheckPrices2_any x.1 x.2.1 x.2.2 vm vp ms ps B C w1 (cellb hB hE) (cellb hC hE) (hm.carry hE) (hp.carry hE) (by have := hok1 h1; omega) hl (fun y hy => by have := hok2 h2 y hy; omega)))
 have HRG := Lib.hid (fun (h2 : prE2 ps = 0) => sumK_rng ps (hok2 h2))
 have hm1 : prE1 ms os ps ≠ 0 → prE ms os ps = prE1 ms os ps ∧ prR ms os ps = 0 := fun h => by
  have e : prE ms os ps = prE1 ms os ps := by unfold prE; rw [if_neg h]
  exact ⟨e, by unfold prR; rw [e, if_neg h]⟩
 have hm2 : prE1 ms os ps = 0 → prE2 ps ≠ 0 → prE ms os ps = prE2 ps ∧ prR ms os ps = 0 := fun h h2 => by
  have e : prE ms os ps = prE2 ps := by unfold prE; rw [if_pos h, if_neg h2]
  exact ⟨e, by unfold prR; rw [e, if_neg h2]⟩
 have hm3 : prE1 ms os ps = 0 → prE2 ps = 0 → prA ms os ps = true → prE ms os ps = 19 ∧ prR ms os ps = 0 := fun h h2 h3 => by
  have e : prE ms os ps = 19 := by unfold prE; rw [if_pos h, if_pos h2, if_pos h3]
  exact ⟨e, by unfold prR; rw [e, if_neg (by decide)]⟩
 have hm4 : prE1 ms os ps = 0 → prE2 ps = 0 → prA ms os ps = false → prE ms os ps = 0 ∧ prR ms os ps = sumK ps ps.length := fun h h2 h3 => by
  have e : prE ms os ps = 0 := by unfold prE; rw [if_pos h, if_pos h2, h3]; rfl
  exact ⟨e, by unfold prR; rw [e, if_pos rfl]⟩
 obtain ⟨e0, he0⟩ : ∃ e, e = bothE ms os := ⟨_, rfl⟩
 rw [← he0] at TC hE1
 obtain ⟨ma, mc, rfl, hmc⟩ := hm.slice
 obtain ⟨pa, pc, hpe, -⟩ := id hp
 subst hpe
 obtain ⟨NM, hNM⟩ : ∃ N, N = ms.length := ⟨_, rfl⟩
 obtain ⟨NP, hNP⟩ : ∃ N, N = ps.length := ⟨_, rfl⟩
 rw [← hNM] at TC TX hm hE1 hok1 hl ⊢
 rw [← hNP] at TE TX hp hE1 hok1 hm4 hpl ⊢
 have T1 := Lib.hid (fun W => when_any ((NP : Int) != (NM : Int)) 2 W)
 obtain ⟨e1, he1⟩ : ∃ e, e = whenE ((NP : Int) != (NM : Int)) 2 := ⟨_, rfl⟩
 rw [← he1] at T1 hE1
 have TF := Lib.hid (fun (u : Value) (W : World) (h : Ints W u [e0, e1]) => first_any u _ W (by simp [maxLen]) h)
 rw [← hE1] at TF
 rw [← hE2] at TE
 have hA : (os.any fun o => decide (o.2.2 < chgS o ms ps)) = prA ms os ps := rfl
 obtain ⟨A, hAA⟩ : ∃ A, A = prA ms os ps := ⟨_, rfl⟩
 obtain ⟨E1, hE1'⟩ : ∃ E, E = prE1 ms os ps := ⟨_, rfl⟩
 obtain ⟨E2, hE2'⟩ : ∃ E, E = prE2 ps := ⟨_, rfl⟩
 obtain ⟨E, hEE⟩ : ∃ E, E = prE ms os ps := ⟨_, rfl⟩
 obtain ⟨R, hRR⟩ : ∃ E, E = prR ms os ps := ⟨_, rfl⟩
 rw [← hE1'] at TF TX hm1 hm2 hm3 hm4 hok1
 rw [← hE2'] at TE TX HRG hm2 hm3 hm4 hok2
 rw [← hAA] at hm3 hm4
 rw [hA, ← hAA] at TX
 rw [← hEE] at hm1 hm2 hm3 hm4 ⊢
 rw [← hRR] at hm1 hm2 hm3 hm4 ⊢
 have HM1 := Lib.hid hm1
 have HM2 := Lib.hid hm2
 have HM3 := Lib.hid hm3
 have HM4 := Lib.hid hm4
 have HOK2 := Lib.hid hok2
 have HNP := Lib.hid hNP
 clear hE1 hE2 hok1 hok2 hm1 hm2 hm3 hm4 he0 he1 hNM hNP hA hAA hE1' hE2' hEE hRR hmc hls
 go_enter Tryz.func40, Tryz.ntmps40
 go_upto_region 1 with fail
 obtain ⟨W1, hW1⟩ : ∃ v, v = World.alloc w (Obj.cells #[.slice ma NM mc] 87) := ⟨_, rfl⟩
 have kW1 : Below w.heap.size w W1 := by rw [hW1]; exact below_new _ _
 have iW1 : Blk W1 (w.heap.size) 87 [.slice ma NM mc] := by rw [hW1]; exact Blk.new _ _ _
 have sW1 : W1.heap.size = w.heap.size + 1 := by rw [hW1]; simp
 rw [← hW1]
 clear hW1
 obtain ⟨W2, hW2⟩ : ∃ v, v = World.alloc W1 (Obj.cells #[.slice pa NP pc] 63) := ⟨_, rfl⟩
 have kW2 : Below W1.heap.size W1 W2 := by rw [hW2]; exact below_new _ _
 have iW2 : Blk W2 (w.heap.size + 1) 63 [.slice pa NP pc] := by rw [hW2, ← sW1]; exact Blk.new _ _ _
 have sW2 : W2.heap.size = w.heap.size + 1 + 1 := by rw [hW2]; simp [sW1]
 rw [← hW2]
 clear hW2
 have hB := bthen kW1 kW2
 have c0 := (iW1.carry kW2).cell (j := 0) (v := .slice ma NM mc) rfl
 have c1 := iW2.cell (j := 0) (v := .slice pa NP pc) rfl
 replace hm := hm.carry hB
 replace ho := ho.carry hB
 replace hp := hp.carry hB
 clear iW1 iW2 sW1 sW2 kW1 kW2
 refine wp_region_E 11 (by kernel_rfl) ?_
 obtain ⟨wz, hwz⟩ : ∃ v, v = W2.drew := ⟨_, rfl⟩
 rw [← hwz]
 have hlz : Below W2.heap.size W2 wz := by rw [hwz]; exact (Below.refl _ _).drew
 have hbz := bthen hB hlz
 have c0 := cellb c0 hlz
 have c1 := cellb c1 hlz
 have hm := hm.carry hlz
 have ho := ho.carry hlz
 have hp := hp.carry hlz
 clear hwz hlz
 refine zV 0 ⟨some 13, .load 87 (.tmp 3), 87, "plan.go:183", #[], none⟩ rfl ?_ (hv := fun w hE => by have c0 := cellb c0 hE; have c1 := cellb c1 hE; (try dsimp only); go_simp; try rfl)
 simp only [Act.put, zS]
 refine zV 1 ⟨some 14, .move (.tmp 1), 89, "plan.go:183", #[], none⟩ rfl ?_
 simp only [Act.put, zS]
 refine zV 3 ⟨some 16, .load 63 (.tmp 5), 63, "plan.go:183", #[], none⟩ rfl ?_ (hv := fun w hE => by have c0 := cellb c0 hE; have c1 := cellb c1 hE; (try dsimp only); go_simp; try rfl)
 simp only [Act.put, zS]
 refine zV 4 ⟨some 17, .call ⟨.builtin .len, #[.tmp 16], #[63]⟩, 3, "plan.go:183", #[⟨3, .data⟩], none⟩ rfl ?_ (hv := fun w hE => by have c0 := cellb c0 hE; have c1 := cellb c1 hE; (try dsimp only); go_simp; try rfl)
 simp only [Act.put, zS]
 refine zV 5 ⟨some 18, .load 87 (.tmp 3), 87, "plan.go:183", #[], none⟩ rfl ?_ (hv := fun w hE => by have c0 := cellb c0 hE; have c1 := cellb c1 hE; (try dsimp only); go_simp; try rfl)
 simp only [Act.put, zS]
 refine zV 6 ⟨some 19, .call ⟨.builtin .len, #[.tmp 18], #[87]⟩, 3, "plan.go:183", #[⟨5, .data⟩], none⟩ rfl ?_ (hv := fun w hE => by have c0 := cellb c0 hE; have c1 := cellb c1 hE; (try dsimp only); go_simp; try rfl)
 simp only [Act.put, zS]
 refine zV 7 ⟨some 20, .binOp .neq 3 (.tmp 17) (.tmp 19) 3, 4, "plan.go:183", #[⟨4, .data⟩, ⟨6, .data⟩], none⟩ rfl ?_
 simp only [Act.put, zS]
 refine zB 2 ⟨some 15, .call ⟨.value (.func 86), #[.tmp 13, .tmp 14], #[87, 89]⟩, 27, "plan.go:183", #[⟨0, .data⟩, ⟨1, .data⟩], none⟩ (fun w hE => TC.out w (hm.carry hE) (ho.carry hE)) rfl ?_
 simp only [Act.put, zS]
 refine zB 8 ⟨some 21, .call ⟨.value (.func 47), #[.tmp 20, .const (.int .i64 2)], #[4, 27]⟩, 27, "plan.go:183", #[⟨7, .data⟩, ⟨2, .chain⟩], none⟩ (fun w hE => ofPure (T1.out w)) rfl ?_
 simp only [Act.put, zS]
 refine wpAnyE_one (i := 9) (o := ⟨some 22, .buildSlice 150 2 #[(0, .tmp 15), (1, .tmp 21)], 150, "plan.go:183", #[⟨2, .data⟩, ⟨8, .data⟩], none⟩) (by kernel_rfl) rfl (fun wy1 hE K hK => ?_)
 have c0 := cellb c0 hE
 have c1 := cellb c1 hE
 have hm := hm.carry hE
 have ho := ho.carry hE
 have hp := hp.carry hE
 have hbz1 := bthen hbz hE
 clear hE
 go_simp
 obtain ⟨wx1, hwz⟩ : ∃ v, v = wy1.alloc (Obj.cells #[.int .i64 e0, .int .i64 e1] 27) := ⟨_, rfl⟩
 rw [← hwz]
 have hl : Below wy1.heap.size wy1 wx1 := by rw [hwz]; exact below_new _ _
 have hcz1 := bthen hbz1 hl
 have iN : BlkI wx1 wy1.heap.size 27 [e0, e1] := by rw [hwz]; exact Blk.new _ _ _
 generalize wy1.heap.size = G at iN ⊢
 have c0 := cellb c0 hl
 have c1 := cellb c1 hl
 have hm := hm.carry hl
 have ho := ho.carry hl
 have hp := hp.carry hl
 clear hwz
 refine hK _ _ (fun _ => hl) ?_
 clear hK K hl
 try simp only [Act.put, zS]
 refine zB 10 ⟨some 23, .call ⟨.value (.func 46), #[.tmp 22], #[150]⟩, 27, "plan.go:183", #[⟨9, .data⟩, ⟨8, .chain⟩], none⟩ (fun w hE => ofPure (TF.out _ w ((BlkI.ints iN rfl).carry hE))) rfl ?_
 simp only [Act.put, zS]
 refine wpAnyE_one (i := 11) (o := ⟨some 8, .assign (.tmp 23), 27, "plan.go:183", #[⟨10, .data⟩, ⟨10, .chain⟩, ⟨0, .phase⟩, ⟨1, .phase⟩, ⟨2, .phase⟩, ⟨3, .phase⟩, ⟨4, .phase⟩, ⟨5, .phase⟩, ⟨6, .phase⟩, ⟨7, .phase⟩, ⟨8, .phase⟩, ⟨9, .phase⟩, ⟨10, .phase⟩], none⟩) (by kernel_rfl) rfl (fun wy2 hE K hK => ?_)
 have c0 := cellb c0 hE
 have c1 := cellb c1 hE
 have hm := hm.carry hE
 have ho := ho.carry hE
 have hp := hp.carry hE
 have hbz2 := bthen hcz1 hE
 go_simp
 refine hK _ _ (fun _ => Below.refl _ _) ?_
 clear hK K hE
 try simp only [Act.put, zS]
 refine wpAnyE_done (by kernel_rfl) (fun wy3 hE => ?_) _
 have hbz3 := bthen hbz2 hE
 have c0 := cellb c0 hE
 have c1 := cellb c1 hE
 have hm := hm.carry hE
 have ho := ho.carry hE
 have hp := hp.carry hE
 clear hE
 have hB := hbz3
 obtain ⟨W9, hW9⟩ : ∃ v, v = wy3 := ⟨_, rfl⟩
 rw [← hW9] at hB c0 c1 hm ho hp ⊢
 clear hW9
 clear TC T1 TF
 by_cases h0 : E1 = 0
 ·subst h0
  go_wp2_with fail
  refine (TE.out W9 hp).mono ?_
  rintro e w3 ⟨rfl, hb3⟩
  have c0 := cellb c0 hb3
  have c1 := cellb c1 hb3
  replace hm := hm.carry hb3
  replace ho := ho.carry hb3
  replace hp := hp.carry hb3
  replace hB := bthen hB hb3
  clear hb3 TE
  by_cases h2 : E2 = 0
  ·subst h2
   have HRGz := Lib.hid (HRG.out (by trivial))
   have HOK2z := Lib.hid (HOK2.out (by trivial))
   have TXz := Lib.hid (TX.out (by trivial) (by trivial))
   have HM3z := Lib.hid (HM3.out (by trivial) (by trivial))
   have HM4z := Lib.hid (HM4.out (by trivial) (by trivial))
   clear HM1 HM2 HRG HOK2 TX HM3 HM4
   go_wp2_with fail
   go_loopw [10, 34] (fun s i wr => ∃ k : Nat, k ≤ NP ∧ i = .int .i64 k ∧ s = .int .i64 (sumK ps k) ∧ Below w3.heap.size w3 wr) (fun _ i _ => NP - (intOf i).toNat)
   case atStart => exact ⟨0, by omega, rfl, rfl, Below.refl _ _⟩
   case round =>
    obtain ⟨k, hk, rfl, rfl, hbel⟩ := hrel
    by_cases hlt : k < NP
    ·obtain ⟨p, hpk⟩ : ∃ p, ps[k]? = some p := ⟨_, List.getElem?_eq_getElem (by rw [← HNP.out]; exact hlt)⟩
     obtain ⟨pb, po, pcap, hpe, hpcs⟩ := (hp.carry hbel).head (by rw [← HNP.out]; omega)
     simp only [Value.slice.injEq] at hpe
     obtain ⟨rfl, -, rfl⟩ := hpe
     have cp := hpcs k (by rw [← HNP.out]; exact hlt)
     rw [hpk, Option.getD_some] at cp
     have hr := HRGz.out k
     have hpx := HOK2z.out p (List.mem_of_getElem? hpk)
     have hs : sumK ps (k + 1) = sumK ps k + p := by simp only [sumK]; rw [hpk]; rfl
     have HS := Lib.hid hs
     obtain ⟨S, hS⟩ : ∃ S, S = sumK ps k := ⟨_, rfl⟩
     rw [← hS] at HS hr ⊢
     have hdk : (k : Int) < (NP : Int) := by omega
     have q1 : IntKind.i64.wrap (S + p) = S + p := IntWalk.i64_in _ (by omega)
     clear hpk hpcs hs hS hlt
     go_wp2
     go_roundw
     case rel => exact ⟨k + 1, by omega, by go_num, by rw [HS.out], hbel⟩
     case measure => simp [intOf]; omega
    ·have hkN : k = NP := by omega
     subst hkN
     have e6 : ¬ (k : Int) < (k : Int) := by omega
     have TXk := Lib.hid (TXz.out _ _ wr (cellb c0 hbel) (cellb c1 hbel) (hm.carry hbel) (ho.carry hbel) (hp.carry hbel))
     have hB := bthen hB hbel
     clear hlt hk
     go_wp2_with fail
     refine TXk.out.mono ?_
     rintro e w4 ⟨rfl, hb4⟩
     replace hB := bthen hB hb4
     cases A with
     | true =>
       obtain ⟨rfl, rfl⟩ := HM3z.out rfl
       go_wp2
       go_ret2
       exact ⟨rfl, hB⟩
     | false =>
       obtain ⟨rfl, hR⟩ := HM4z.out rfl
       have HR := Lib.hid hR
       clear hR
       go_wp2
       go_ret2
       rw [HR.out]
       exact ⟨rfl, hB⟩
  ·obtain ⟨rfl, rfl⟩ := HM2.out (by trivial) h2
   have b0 : (E != 0) = true := by rw [bne_iff_ne]; exact h2
   clear h2
   go_wp2
   go_ret2
   exact ⟨rfl, hB⟩
 ·obtain ⟨rfl, rfl⟩ := HM1.out h0
  have b0 : (E != 0) = true := by rw [bne_iff_ne]; exact h0
  clear h0
  go_wp2
  go_ret2
  exact ⟨rfl, hB⟩
end Go.Proofs.YtpmngcffkhbofaaGreatDoor

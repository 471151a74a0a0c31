/- Package phasor: CheckTelegram, checkTelegrams, integers. -/
import Derived.Test.YtgpdalgfbfboaaaGreatDoorVbD
namespace Go.Proofs.YtgpdalgfbfboaaaGreatDoor
set_option linter.unusedSimpArgs false
set_option linter.unusedVariables false
open Go.RowKit
def tgL (t : Tg) : List Int := [t.2.2.1, t.2.2.2.1, t.2.2.2.2.1, t.2.2.2.2.2]
def tgA (t : Tg) : Int := firstE [withinE t.1 0 255, withinE t.2.1 0 65535]
def tgB (t : Tg) : Int := firstE ((tgL t).map fun n => withinE n (-32768) 32767)
def tgE (t : Tg) : Int := if tgA t = 0 then tgB t else tgA t
theorem Tryz.enterTg1 (args : Array Value) (w : World) : Sem.run Tryz.prog (callFunc 186 args) w = .ok (.enter 186 args) w :=
 MuLone.run_callFunc_enter Tryz.func186 (by kernel_rfl) rfl args w
theorem Tryz.enterCkT (args : Array Value) (w : World) : Sem.run Tryz.prog (callFunc 157 args) w = .ok (.enter 157 args) w :=
 MuLone.run_callFunc_enter Tryz.func157 (by kernel_rfl) rfl args w
theorem Tryz.enterTln (args : Array Value) (w : World) : Sem.run Tryz.prog (callFunc 125 args) w = .ok (.enter 125 args) w :=
 MuLone.run_callFunc_enter Tryz.func125 (by kernel_rfl) rfl args w
theorem CheckTg1_any (n : Int) (w : World) : Calls Tryz.prog 186 #[.int .i64 n] w fun r w' => r = .returned (.int .i64 (withinE n (-32768) 32767)) ∧ w = w' := by
 go_enter Tryz.func186, Tryz.ntmps186
 go_wp2_with fail
 refine (withinP_any _ _ _ _).mono ?_
 rintro e w' ⟨rfl, rfl⟩
 go_wp2_with fail
 go_ret
 exact ⟨rfl, rfl⟩
set_option maxRecDepth 100000 in
set_option maxHeartbeats 2000000 in
theorem CheckTelegram_any (a b c d e f : Int) (w : World) :
 Calls Tryz.prog 157 #[.agg #[.int .i64 a, .int .i64 b, .int .i64 c, .int .i64 d, .int .i64 e, .int .i64 f]] w fun r w' => r = .returned (.int .i64 (tgE (a, b, c, d, e, f))) ∧ Below w.heap.size w w' := by
 have R1 := Lib.hid (fun W => withinP_any a 0 255 W)
 have R2 := Lib.hid (fun W => withinP_any b 0 65535 W)
 have hA : tgA (a, b, c, d, e, f) = firstE [withinE a 0 255, withinE b 0 65535] := rfl
 have hB1 : tgB (a, b, c, d, e, f) = firstE ([c, d, e, f].map fun n => withinE n (-32768) 32767) := rfl
 have he1 : tgA (a, b, c, d, e, f) = 0 → tgE (a, b, c, d, e, f) = tgB (a, b, c, d, e, f) := fun h => by unfold tgE; rw [if_pos h]
 have he2 : tgA (a, b, c, d, e, f) ≠ 0 → tgE (a, b, c, d, e, f) = tgA (a, b, c, d, e, f) := fun h => by unfold tgE; rw [if_neg h]
 obtain ⟨e0, he0⟩ : ∃ z, z = withinE a 0 255 := ⟨_, rfl⟩
 obtain ⟨e1, hee1⟩ : ∃ z, z = withinE b 0 65535 := ⟨_, rfl⟩
 rw [← he0] at R1 hA
 rw [← hee1] at R2 hA
 have RF := Lib.hid (fun (u : Value) (W : World) (h : Ints W u [e0, e1]) => firstP_any u [e0, e1] W (by simp [maxLen]) h)
 rw [← hA] at RF
 have RM := Lib.hid (fun (u : Value) (W : World) (h : Ints W u [c, d, e, f]) => mapIEp_any 186 #[] Tryz.enterTg1 (fun n => withinE n (-32768) 32767) u [c, d, e, f] W (by simp) (Rw.of_ints h) (fun x _ w1 _ => (CheckTg1_any x w1).mono fun r w2 ⟨hr, hw⟩ => ⟨hr, by rw [← hw]; exact Below.refl _ _⟩))
 have RG := Lib.hid (fun (u : Value) (W : World) (h : Ints W u ([c, d, e, f].map fun n => withinE n (-32768) 32767)) => firstP_any u _ W (by simp [maxLen]) h)
 rw [← hB1] at RG
 obtain ⟨L, hL⟩ : ∃ L, L = ([c, d, e, f].map fun n => withinE n (-32768) 32767) := ⟨_, rfl⟩
 rw [← hL] at RM RG
 obtain ⟨A, hAA⟩ : ∃ z, z = tgA (a, b, c, d, e, f) := ⟨_, rfl⟩
 obtain ⟨B, hBB⟩ : ∃ z, z = tgB (a, b, c, d, e, f) := ⟨_, rfl⟩
 obtain ⟨E, hEE⟩ : ∃ z, z = tgE (a, b, c, d, e, f) := ⟨_, rfl⟩
 rw [← hAA] at RF he1 he2
 rw [← hBB] at RG he1
 rw [← hEE] at he1 he2 ⊢
 have HE1 := Lib.hid he1
 have HE2 := Lib.hid he2
 clear hA hB1 he0 hee1 hL hAA hBB hEE he1 he2
 go_enter Tryz.func157, Tryz.ntmps157
 go_upto_region 1 with fail
 obtain ⟨W1, hW1⟩ : ∃ v, v = World.alloc w (Obj.cells #[.int .i64 a, .int .i64 b, .int .i64 c, .int .i64 d, .int .i64 e, .int .i64 f] 75) := ⟨_, rfl⟩
 have kW1 : Below w.heap.size w W1 := by rw [hW1]; exact below_new _ _
 have iW1 : Blk W1 (w.heap.size) 75 [.int .i64 a, .int .i64 b, .int .i64 c, .int .i64 d, .int .i64 e, .int .i64 f] := by rw [hW1]; exact Blk.new _ _ _
 have sW1 : W1.heap.size = w.heap.size + 1 := by rw [hW1]; simp
 rw [← hW1]
 clear hW1
 have i1 := iW1
 have hB := kW1
 have a0 := i1.cell (j := 0) (v := .int .i64 a) rfl
 have a1 := i1.cell (j := 1) (v := .int .i64 b) rfl
 clear iW1 kW1 sW1
 refine wp_region_E 99 (by kernel_rfl) ?_
 obtain ⟨wz, hwz⟩ : ∃ v, v = W1.drew := ⟨_, rfl⟩
 rw [← hwz]
 have hlz : Below W1.heap.size W1 wz := by rw [hwz]; exact (Below.refl _ _).drew
 have hbz := bthen hB hlz
 have a0 := cellb a0 hlz
 have a1 := cellb a1 hlz
 have i1 := i1.carry hlz
 clear hwz hlz
 refine zT 0 ⟨some 4, .fieldAddr 75 (.tmp 1) 0, 0, "telegram.go:35", #[], none⟩ (v := ?_) rfl (Or.inl ⟨by rfl, ?_⟩) ?_
 rotate_left
 ·(intro w hE; have a0 := cellb a0 hE; have a1 := cellb a1 hE; (try dsimp only); go_simp); (try with_reducible rfl)
 try simp only [Act.put, zS]
 refine zT 1 ⟨some 5, .load 3 (.tmp 4), 3, "telegram.go:35", #[⟨0, .data⟩], none⟩ (v := ?_) rfl (Or.inl ⟨by rfl, ?_⟩) ?_
 rotate_left
 ·(intro w hE; have a0 := cellb a0 hE; have a1 := cellb a1 hE; (try dsimp only); go_simp); (try with_reducible rfl)
 try simp only [Act.put, zS]
 refine zT 3 ⟨some 7, .fieldAddr 75 (.tmp 1) 1, 0, "telegram.go:35", #[], none⟩ (v := ?_) rfl (Or.inl ⟨by rfl, ?_⟩) ?_
 rotate_left
 ·(intro w hE; have a0 := cellb a0 hE; have a1 := cellb a1 hE; (try dsimp only); go_simp); (try with_reducible rfl)
 try simp only [Act.put, zS]
 refine zT 4 ⟨some 8, .load 3 (.tmp 7), 3, "telegram.go:35", #[⟨3, .data⟩], none⟩ (v := ?_) rfl (Or.inl ⟨by rfl, ?_⟩) ?_
 rotate_left
 ·(intro w hE; have a0 := cellb a0 hE; have a1 := cellb a1 hE; (try dsimp only); go_simp); (try with_reducible rfl)
 try simp only [Act.put, zS]
 refine zC 2 ⟨some 6, .call ⟨.value (.func 184), #[.tmp 5, .const (.int .i64 0), .const (.int .i64 255)], #[3, 3, 3]⟩, 27, "telegram.go:35", #[⟨1, .data⟩], none⟩ (fun w hE => ofPure (R1.out w)) rfl (by rfl) (fun w hE => by (try dsimp only); go_simp) ?_
 try simp only [Act.put, zS]
 refine zC 5 ⟨some 9, .call ⟨.value (.func 184), #[.tmp 8, .const (.int .i64 0), .const (.int .i64 65535)], #[3, 3, 3]⟩, 27, "telegram.go:35", #[⟨4, .data⟩, ⟨2, .chain⟩], none⟩ (fun w hE => ofPure (R2.out w)) rfl (by rfl) (fun w hE => by (try dsimp only); go_simp) ?_
 try simp only [Act.put, zS]
 refine wpAnyE_one (i := 6) (o := ⟨some 10, .buildSlice 137 2 #[(0, .tmp 6), (1, .tmp 9)], 137, "telegram.go:35", #[⟨2, .data⟩, ⟨5, .data⟩], none⟩) (by kernel_rfl) rfl (fun wy1 hE K hK => ?_)
 have a0 := cellb a0 hE
 have a1 := cellb a1 hE
 have i1 := i1.carry hE
 have hbz1 := bthen hbz hE
 clear hE
 go_simp
 obtain ⟨wx1, hwz⟩ : ∃ v, v = wy1.alloc (Obj.cells #[.int .i64 e0, .int .i64 e1] 27) := ⟨_, rfl⟩
 rw [← hwz]
 have hl : Below wy1.heap.size wy1 wx1 := by rw [hwz]; exact below_new _ _
 have hcz1 := bthen hbz1 hl
 have iN : BlkI wx1 wy1.heap.size 27 [e0, e1] := by rw [hwz]; exact Blk.new _ _ _
 generalize wy1.heap.size = G at iN ⊢
 have a0 := cellb a0 hl
 have a1 := cellb a1 hl
 have i1 := i1.carry hl
 clear hwz
 refine hK _ _ (fun _ => hl) ?_
 clear hK K hl
 try simp only [Act.put, zS]
 refine zC 7 ⟨some 11, .call ⟨.value (.func 155), #[.tmp 10], #[137]⟩, 27, "telegram.go:35", #[⟨6, .data⟩, ⟨5, .chain⟩], none⟩ (fun w hE => ofPure (RF.out _ w ((BlkI.ints iN rfl).carry hE))) rfl (by rfl) (fun w hE => by (try dsimp only); go_simp) ?_
 try simp only [Act.put, zS]
 refine zT 8 ⟨some 3, .assign (.tmp 11), 27, "telegram.go:35", #[⟨7, .data⟩, ⟨7, .chain⟩, ⟨0, .phase⟩, ⟨1, .phase⟩, ⟨2, .phase⟩, ⟨3, .phase⟩, ⟨4, .phase⟩, ⟨5, .phase⟩, ⟨6, .phase⟩, ⟨7, .phase⟩], none⟩ (v := ?_) rfl (Or.inl ⟨by rfl, ?_⟩) ?_
 rotate_left
 ·(intro w hE; have a0 := cellb a0 hE; have a1 := cellb a1 hE; (try dsimp only); go_simp); (try with_reducible rfl)
 try simp only [Act.put, zS]
 refine wpAnyE_done (by kernel_rfl) (fun wy2 hE => ?_) _
 have hbz2 := bthen hcz1 hE
 have a0 := cellb a0 hE
 have a1 := cellb a1 hE
 have i1 := i1.carry hE
 clear hE
 have hB := hbz2
 obtain ⟨W9, hW9⟩ : ∃ v, v = wy2 := ⟨_, rfl⟩
 rw [← hW9] at hB i1 ⊢
 clear hW9
 have hI : Ints W9 (.slice (some ⟨w.heap.size, 2, none⟩) 4 4) [c, d, e, f] := by
  refine ⟨some ⟨w.heap.size, 2, none⟩, 4, rfl, by simp, fun _ => ⟨w.heap.size, 2, rfl, fun j hj => ?_⟩⟩
  have hj4 : j = 0 ∨ j = 1 ∨ j = 2 ∨ j = 3 := by simp at hj; omega
  rcases hj4 with rfl | rfl | rfl | rfl
  ·exact i1.cell (j := 2) (v := .int .i64 c) rfl
  ·exact i1.cell (j := 3) (v := .int .i64 d) rfl
  ·exact i1.cell (j := 4) (v := .int .i64 e) rfl
  ·exact i1.cell (j := 5) (v := .int .i64 f) rfl
 by_cases h0 : A = 0
 ·subst h0
  obtain rfl := HE1.out (by trivial)
  clear HE1 HE2
  go_wp2_with fail
  refine (RM.out _ W9 hI).mono ?_
  rintro e w5 ⟨⟨u, rfl, hu⟩, hb5⟩
  go_wp2_with fail
  refine (RG.out u w5 (OwR.ints hu)).mono ?_
  rintro e w6 ⟨rfl, rfl⟩
  go_wp2
  go_ret
  exact ⟨rfl, bthen hB hb5⟩
 ·obtain rfl := HE2.out h0
  have b0 : (E != 0) = true := by rw [bne_iff_ne]; exact h0
  clear h0 HE1 HE2
  go_wp2
  go_ret
  exact ⟨rfl, hB⟩
def ctE (l : List Tg) : Int := if 1024 < l.length then 5 else firstE (l.map tgE)
set_option maxRecDepth 100000 in
set_option maxHeartbeats 1000000 in
theorem checkTelegrams_any (v : Value) (l : List Tg) (w : World) (hl : l.length ≤ 1000000) (hv : Rw 6 tV w v l) :
 Calls Tryz.prog 122 #[v] w fun r w' => r = .returned (.int .i64 (ctE l)) ∧ Below w.heap.size w w' := by
 have T0 := Lib.hid (mapTEp_any 157 #[] Tryz.enterCkT tgE v l w hl hv (fun x _ w1 _ => CheckTelegram_any x.1 x.2.1 x.2.2.1 x.2.2.2.1 x.2.2.2.2.1 x.2.2.2.2.2 w1))
 have TF := Lib.hid (fun (u : Value) (W : World) (h : Ints W u (l.map tgE)) => firstP_any u _ W (by simp [maxLen]; omega) h)
 have h1 : 1024 < l.length → ctE l = 5 := fun h => by unfold ctE; rw [if_pos h]
 have h2 : ¬ 1024 < l.length → ctE l = firstE (l.map tgE) := fun h => by unfold ctE; rw [if_neg h]
 obtain ⟨a, cp, rfl, hcp⟩ := hv.slice
 obtain ⟨N, hN⟩ : ∃ N, N = l.length := ⟨_, rfl⟩
 obtain ⟨E, hE⟩ : ∃ e, e = ctE l := ⟨_, rfl⟩
 rw [← hN] at T0 h1 h2 hl ⊢
 rw [← hE] at h1 h2 ⊢
 clear hv hcp hN hE
 by_cases h9 : 1024 < N
 ·obtain rfl := h1 h9
  have b9 : decide ((1024 : Int) < (N : Int)) = true := by simp; omega
  clear h1 h2 h9
  go_enter Tryz.func122, Tryz.ntmps122
  go_wp2
  go_ret
  exact ⟨rfl, Below.refl _ _⟩
 ·have hE := h2 h9
  rw [← hE] at TF
  have b9 : decide ((1024 : Int) < (N : Int)) = false := by simp; omega
  clear h1 h2 h9 hE
  go_enter Tryz.func122, Tryz.ntmps122
  go_wp2_with fail
  refine T0.out.mono ?_
  rintro e w2 ⟨⟨u, rfl, hu⟩, hb2⟩
  go_wp2_with fail
  refine (TF.out u w2 (OwR.ints hu)).mono ?_
  rintro e w3 ⟨rfl, rfl⟩
  go_wp2
  go_ret
  exact ⟨rfl, hb2⟩
end Go.Proofs.YtgpdalgfbfboaaaGreatDoor

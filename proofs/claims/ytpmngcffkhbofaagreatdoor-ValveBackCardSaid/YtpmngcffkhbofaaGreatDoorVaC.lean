/- Package valve: checks of trains, logs, outages, acknowledgements, deliveries. (printed by gen/valC.py) -/
import Derived.Test.YtpmngcffkhbofaaGreatDoorVaB
namespace Go.Proofs.YtpmngcffkhbofaaGreatDoor
set_option linter.unusedSimpArgs false
set_option linter.unusedVariables false
open Go.RowKit
set_option maxRecDepth 100000 in
set_option maxHeartbeats 1000000 in
theorem Missing1_any (i : Int) (x y : Int) (w : World) :
 Calls Tryz.prog 73 #[.int .i64 i, .agg #[.int .i64 x, .int .i64 y]] w fun r w' => r = .returned (.int .i64 (firstE [withinE x 0 11, withinE y 0 100000])) ∧ Below w.heap.size w w' := by
 have T0 := Lib.hid (fun W => within_any x 0 11 W)
 have T1 := Lib.hid (fun W => within_any y 0 100000 W)
 obtain ⟨e0, he0⟩ : ∃ e, e = withinE x 0 11 := ⟨_, rfl⟩
 obtain ⟨e1, he1⟩ : ∃ e, e = withinE y 0 100000 := ⟨_, rfl⟩
 rw [← he0] at T0
 rw [← he1] at T1
 rw [← he0, ← he1]
 clear he0 he1
 have TF := Lib.hid (fun (u : Value) (W : World) (h : Ints W u [e0, e1]) => first_any u _ W (by simp [maxLen]) h)
 go_enter Tryz.func73, Tryz.ntmps73
 go_upto_region 1 with fail
 obtain ⟨W1, hW1⟩ : ∃ v, v = World.alloc w (Obj.cells #[.int .i64 x, .int .i64 y] 73) := ⟨_, rfl⟩
 have kW1 : Below w.heap.size w W1 := by rw [hW1]; exact below_new _ _
 have iW1 : Blk W1 (w.heap.size) 73 [.int .i64 x, .int .i64 y] := by rw [hW1]; exact Blk.new _ _ _
 have sW1 : W1.heap.size = w.heap.size + 1 := by rw [hW1]; simp
 rw [← hW1]
 clear hW1
 have c0 := iW1.cell (j := 0) (v := .int .i64 x) rfl
 have c1 := iW1.cell (j := 1) (v := .int .i64 y) rfl
 have hB := kW1
 clear iW1 sW1 kW1
 refine wp_region_E 8 (by kernel_rfl) ?_
 obtain ⟨wz, hwz⟩ : ∃ v, v = W1.drew := ⟨_, rfl⟩
 rw [← hwz]
 have hlz : Below W1.heap.size W1 wz := by rw [hwz]; exact (Below.refl _ _).drew
 have hbz := bthen hB hlz
 have c0 := cellb c0 hlz
 have c1 := cellb c1 hlz
 clear hwz hlz
 refine zV 0 ⟨some 5, .fieldAddr 73 (.tmp 3) 0, 0, "valve.go:325", #[], none⟩ rfl ?_
 simp only [Act.put, zS]
 refine zV 1 ⟨some 6, .load 3 (.tmp 5), 3, "valve.go:325", #[⟨0, .data⟩], none⟩ rfl ?_ (hv := fun w hE => by have c0 := cellb c0 hE; have c1 := cellb c1 hE; (try dsimp only); go_simp; try rfl)
 simp only [Act.put, zS]
 refine zV 3 ⟨some 8, .fieldAddr 73 (.tmp 3) 1, 0, "valve.go:325", #[], none⟩ rfl ?_
 simp only [Act.put, zS]
 refine zV 4 ⟨some 9, .load 3 (.tmp 8), 3, "valve.go:325", #[⟨3, .data⟩], none⟩ rfl ?_ (hv := fun w hE => by have c0 := cellb c0 hE; have c1 := cellb c1 hE; (try dsimp only); go_simp; try rfl)
 simp only [Act.put, zS]
 refine zB 2 ⟨some 7, .call ⟨.value (.func 59), #[.tmp 6, .const (.int .i64 0), .const (.int .i64 11)], #[3, 3, 3]⟩, 27, "valve.go:325", #[⟨1, .data⟩], none⟩ (fun w hE => ofPure (T0.out w)) rfl ?_
 simp only [Act.put, zS]
 refine zB 5 ⟨some 10, .call ⟨.value (.func 59), #[.tmp 9, .const (.int .i64 0), .const (.int .i64 100000)], #[3, 3, 3]⟩, 27, "valve.go:325", #[⟨4, .data⟩, ⟨2, .chain⟩], none⟩ (fun w hE => ofPure (T1.out w)) rfl ?_
 simp only [Act.put, zS]
 refine wpAnyE_one (i := 6) (o := ⟨some 11, .buildSlice 150 2 #[(0, .tmp 7), (1, .tmp 10)], 150, "valve.go:325", #[⟨2, .data⟩, ⟨5, .data⟩], none⟩) (by kernel_rfl) rfl (fun wy1 hE K hK => ?_)
 have c0 := cellb c0 hE
 have c1 := cellb c1 hE
 have hbz1 := bthen hbz hE
 clear hE
 go_simp
 obtain ⟨wx1, hwz⟩ : ∃ v, v = wy1.alloc (Obj.cells #[.int .i64 e0, .int .i64 e1] 27) := ⟨_, rfl⟩
 rw [← hwz]
 have hl : Below wy1.heap.size wy1 wx1 := by rw [hwz]; exact below_new _ _
 have hcz1 := bthen hbz1 hl
 have iN : BlkI wx1 wy1.heap.size 27 [e0, e1] := by rw [hwz]; exact Blk.new _ _ _
 generalize wy1.heap.size = G at iN ⊢
 have c0 := cellb c0 hl
 have c1 := cellb c1 hl
 clear hwz
 refine hK _ _ (fun _ => hl) ?_
 clear hK K hl
 try simp only [Act.put, zS]
 refine zB 7 ⟨some 12, .call ⟨.value (.func 46), #[.tmp 11], #[150]⟩, 27, "valve.go:325", #[⟨6, .data⟩, ⟨5, .chain⟩], none⟩ (fun w hE => ofPure (TF.out _ w ((BlkI.ints iN rfl).carry hE))) rfl ?_
 simp only [Act.put, zS]
 refine wpAnyE_one (i := 8) (o := ⟨some 4, .assign (.tmp 12), 27, "valve.go:325", #[⟨7, .data⟩, ⟨7, .chain⟩, ⟨0, .phase⟩, ⟨1, .phase⟩, ⟨2, .phase⟩, ⟨3, .phase⟩, ⟨4, .phase⟩, ⟨5, .phase⟩, ⟨6, .phase⟩, ⟨7, .phase⟩], none⟩) (by kernel_rfl) rfl (fun wy2 hE K hK => ?_)
 have c0 := cellb c0 hE
 have c1 := cellb c1 hE
 have hbz2 := bthen hcz1 hE
 go_simp
 refine hK _ _ (fun _ => Below.refl _ _) ?_
 clear hK K hE
 try simp only [Act.put, zS]
 refine wpAnyE_done (by kernel_rfl) (fun wy3 hE => ?_) _
 have hbz3 := bthen hbz2 hE
 have c0 := cellb c0 hE
 have c1 := cellb c1 hE
 clear hE
 have hB := hbz3
 obtain ⟨W9, hW9⟩ : ∃ v, v = wy3 := ⟨_, rfl⟩
 rw [← hW9] at hB c0 c1 ⊢
 clear hW9
 go_wp2
 go_ret
 exact ⟨rfl, hB⟩
set_option maxRecDepth 100000 in
set_option maxHeartbeats 1000000 in
theorem Spares1_any (i : Int) (x y : Int) (w : World) :
 Calls Tryz.prog 102 #[.int .i64 i, .agg #[.int .i64 x, .int .i64 y]] w fun r w' => r = .returned (.int .i64 (firstE [withinE x 0 100000, withinE y 1 100])) ∧ Below w.heap.size w w' := by
 have T0 := Lib.hid (fun W => within_any x 0 100000 W)
 have T1 := Lib.hid (fun W => within_any y 1 100 W)
 obtain ⟨e0, he0⟩ : ∃ e, e = withinE x 0 100000 := ⟨_, rfl⟩
 obtain ⟨e1, he1⟩ : ∃ e, e = withinE y 1 100 := ⟨_, rfl⟩
 rw [← he0] at T0
 rw [← he1] at T1
 rw [← he0, ← he1]
 clear he0 he1
 have TF := Lib.hid (fun (u : Value) (W : World) (h : Ints W u [e0, e1]) => first_any u _ W (by simp [maxLen]) h)
 go_enter Tryz.func102, Tryz.ntmps102
 go_upto_region 1 with fail
 obtain ⟨W1, hW1⟩ : ∃ v, v = World.alloc w (Obj.cells #[.int .i64 x, .int .i64 y] 95) := ⟨_, rfl⟩
 have kW1 : Below w.heap.size w W1 := by rw [hW1]; exact below_new _ _
 have iW1 : Blk W1 (w.heap.size) 95 [.int .i64 x, .int .i64 y] := by rw [hW1]; exact Blk.new _ _ _
 have sW1 : W1.heap.size = w.heap.size + 1 := by rw [hW1]; simp
 rw [← hW1]
 clear hW1
 have c0 := iW1.cell (j := 0) (v := .int .i64 x) rfl
 have c1 := iW1.cell (j := 1) (v := .int .i64 y) rfl
 have hB := kW1
 clear iW1 sW1 kW1
 refine wp_region_E 8 (by kernel_rfl) ?_
 obtain ⟨wz, hwz⟩ : ∃ v, v = W1.drew := ⟨_, rfl⟩
 rw [← hwz]
 have hlz : Below W1.heap.size W1 wz := by rw [hwz]; exact (Below.refl _ _).drew
 have hbz := bthen hB hlz
 have c0 := cellb c0 hlz
 have c1 := cellb c1 hlz
 clear hwz hlz
 refine zV 0 ⟨some 5, .fieldAddr 95 (.tmp 3) 0, 0, "plan.go:211", #[], none⟩ rfl ?_
 simp only [Act.put, zS]
 refine zV 1 ⟨some 6, .load 3 (.tmp 5), 3, "plan.go:211", #[⟨0, .data⟩], none⟩ rfl ?_ (hv := fun w hE => by have c0 := cellb c0 hE; have c1 := cellb c1 hE; (try dsimp only); go_simp; try rfl)
 simp only [Act.put, zS]
 refine zV 3 ⟨some 8, .fieldAddr 95 (.tmp 3) 1, 0, "plan.go:211", #[], none⟩ rfl ?_
 simp only [Act.put, zS]
 refine zV 4 ⟨some 9, .load 3 (.tmp 8), 3, "plan.go:211", #[⟨3, .data⟩], none⟩ rfl ?_ (hv := fun w hE => by have c0 := cellb c0 hE; have c1 := cellb c1 hE; (try dsimp only); go_simp; try rfl)
 simp only [Act.put, zS]
 refine zB 2 ⟨some 7, .call ⟨.value (.func 59), #[.tmp 6, .const (.int .i64 0), .const (.int .i64 100000)], #[3, 3, 3]⟩, 27, "plan.go:211", #[⟨1, .data⟩], none⟩ (fun w hE => ofPure (T0.out w)) rfl ?_
 simp only [Act.put, zS]
 refine zB 5 ⟨some 10, .call ⟨.value (.func 59), #[.tmp 9, .const (.int .i64 1), .const (.int .i64 100)], #[3, 3, 3]⟩, 27, "plan.go:211", #[⟨4, .data⟩, ⟨2, .chain⟩], none⟩ (fun w hE => ofPure (T1.out w)) rfl ?_
 simp only [Act.put, zS]
 refine wpAnyE_one (i := 6) (o := ⟨some 11, .buildSlice 150 2 #[(0, .tmp 7), (1, .tmp 10)], 150, "plan.go:211", #[⟨2, .data⟩, ⟨5, .data⟩], none⟩) (by kernel_rfl) rfl (fun wy1 hE K hK => ?_)
 have c0 := cellb c0 hE
 have c1 := cellb c1 hE
 have hbz1 := bthen hbz hE
 clear hE
 go_simp
 obtain ⟨wx1, hwz⟩ : ∃ v, v = wy1.alloc (Obj.cells #[.int .i64 e0, .int .i64 e1] 27) := ⟨_, rfl⟩
 rw [← hwz]
 have hl : Below wy1.heap.size wy1 wx1 := by rw [hwz]; exact below_new _ _
 have hcz1 := bthen hbz1 hl
 have iN : BlkI wx1 wy1.heap.size 27 [e0, e1] := by rw [hwz]; exact Blk.new _ _ _
 generalize wy1.heap.size = G at iN ⊢
 have c0 := cellb c0 hl
 have c1 := cellb c1 hl
 clear hwz
 refine hK _ _ (fun _ => hl) ?_
 clear hK K hl
 try simp only [Act.put, zS]
 refine zB 7 ⟨some 12, .call ⟨.value (.func 46), #[.tmp 11], #[150]⟩, 27, "plan.go:211", #[⟨6, .data⟩, ⟨5, .chain⟩], none⟩ (fun w hE => ofPure (TF.out _ w ((BlkI.ints iN rfl).carry hE))) rfl ?_
 simp only [Act.put, zS]
 refine wpAnyE_one (i := 8) (o := ⟨some 4, .assign (.tmp 12), 27, "plan.go:211", #[⟨7, .data⟩, ⟨7, .chain⟩, ⟨0, .phase⟩, ⟨1, .phase⟩, ⟨2, .phase⟩, ⟨3, .phase⟩, ⟨4, .phase⟩, ⟨5, .phase⟩, ⟨6, .phase⟩, ⟨7, .phase⟩], none⟩) (by kernel_rfl) rfl (fun wy2 hE K hK => ?_)
 have c0 := cellb c0 hE
 have c1 := cellb c1 hE
 have hbz2 := bthen hcz1 hE
 go_simp
 refine hK _ _ (fun _ => Below.refl _ _) ?_
 clear hK K hE
 try simp only [Act.put, zS]
 refine wpAnyE_done (by kernel_rfl) (fun wy3 hE => ?_) _
 have hbz3 := bthen hbz2 hE
 have c0 := cellb c0 hE
 have c1 := cellb c1 hE
 clear hE
 have hB := hbz3
 obtain ⟨W9, hW9⟩ : ∃ v, v = wy3 := ⟨_, rfl⟩
 rw [← hW9] at hB c0 c1 ⊢
 clear hW9
 go_wp2
 go_ret
 exact ⟨rfl, hB⟩
set_option maxRecDepth 100000 in
set_option maxHeartbeats 1000000 in
theorem CheckTrain1_any (i : Int) (x y last : Int) (B base : Nat) (w : World) (hb0 : base ≤ B) (hblk : BlkI w B 3 [last]) :
 Calls Tryz.prog 129 #[.int .i64 i, .agg #[.int .i64 x, .int .i64 y], .pointer (some ⟨B, 0, none⟩)] w fun r w' => r = .returned (.int .i64 (firstE [withinE x 0 100000, withinE y 0 4095, whenE (decide (x ≤ last)) 11])) ∧ Below base w w' ∧ BlkI w' B 3 [x] := by
 have T0 := Lib.hid (fun W => within_any x 0 100000 W)
 have T1 := Lib.hid (fun W => within_any y 0 4095 W)
 have T2 := Lib.hid (fun W => when_any (decide (x ≤ last)) 11 W)
 obtain ⟨e0, he0⟩ : ∃ e, e = withinE x 0 100000 := ⟨_, rfl⟩
 obtain ⟨e1, he1⟩ : ∃ e, e = withinE y 0 4095 := ⟨_, rfl⟩
 obtain ⟨e2, he2⟩ : ∃ e, e = whenE (decide (x ≤ last)) 11 := ⟨_, rfl⟩
 rw [← he0] at T0
 rw [← he1] at T1
 rw [← he2] at T2
 rw [← he0, ← he1, ← he2]
 clear he0 he1 he2
 have TF := Lib.hid (fun (u : Value) (W : World) (h : Ints W u [e0, e1, e2]) => first_any u _ W (by simp [maxLen]) h)
 have hlt := Blk.lt hblk
 go_enter Tryz.func129, Tryz.ntmps129
 go_upto_region 1 with fail
 obtain ⟨W1, hW1⟩ : ∃ v, v = World.alloc w (Obj.cells #[.int .i64 x, .int .i64 y] 104) := ⟨_, rfl⟩
 have kW1 : Below w.heap.size w W1 := by rw [hW1]; exact below_new _ _
 have iW1 : Blk W1 (w.heap.size) 104 [.int .i64 x, .int .i64 y] := by rw [hW1]; exact Blk.new _ _ _
 have sW1 : W1.heap.size = w.heap.size + 1 := by rw [hW1]; simp
 rw [← hW1]
 clear hW1
 have c0 := iW1.cell (j := 0) (v := .int .i64 x) rfl
 have c1 := iW1.cell (j := 1) (v := .int .i64 y) rfl
 have hB := kW1
 replace hblk := Blk.carry hblk kW1
 have cB := BlkI.cell hblk (j := 0) (by simp)
 simp only [List.getElem?_cons_zero, Option.getD_some] at cB
 clear iW1 sW1 kW1
 refine wp_region_E 13 (by kernel_rfl) ?_
 obtain ⟨wz, hwz⟩ : ∃ v, v = W1.drew := ⟨_, rfl⟩
 rw [← hwz]
 have hlz : Below W1.heap.size W1 wz := by rw [hwz]; exact (Below.refl _ _).drew
 have hbz := bthen hB hlz
 have cB := cellb cB hlz
 have c0 := cellb c0 hlz
 have c1 := cellb c1 hlz
 have hblk := hblk.carry hlz
 clear hwz hlz
 refine zV 0 ⟨some 7, .fieldAddr 104 (.tmp 4) 0, 0, "valve.go:101", #[], none⟩ rfl ?_
 simp only [Act.put, zS]
 refine zV 1 ⟨some 8, .load 3 (.tmp 7), 3, "valve.go:101", #[⟨0, .data⟩], none⟩ rfl ?_ (hv := fun w hE => by have cB := cellb cB hE; have c0 := cellb c0 hE; have c1 := cellb c1 hE; (try dsimp only); go_simp; try rfl)
 simp only [Act.put, zS]
 refine zV 3 ⟨some 10, .fieldAddr 104 (.tmp 4) 1, 0, "valve.go:101", #[], none⟩ rfl ?_
 simp only [Act.put, zS]
 refine zV 4 ⟨some 11, .load 3 (.tmp 10), 3, "valve.go:101", #[⟨3, .data⟩], none⟩ rfl ?_ (hv := fun w hE => by have cB := cellb cB hE; have c0 := cellb c0 hE; have c1 := cellb c1 hE; (try dsimp only); go_simp; try rfl)
 simp only [Act.put, zS]
 refine zV 6 ⟨some 13, .fieldAddr 104 (.tmp 4) 0, 0, "valve.go:101", #[], none⟩ rfl ?_
 simp only [Act.put, zS]
 refine zV 7 ⟨some 14, .load 3 (.tmp 13), 3, "valve.go:101", #[⟨6, .data⟩], none⟩ rfl ?_ (hv := fun w hE => by have cB := cellb cB hE; have c0 := cellb c0 hE; have c1 := cellb c1 hE; (try dsimp only); go_simp; try rfl)
 simp only [Act.put, zS]
 refine zV 8 ⟨some 15, .load 3 (.tmp 2), 3, "valve.go:101", #[], none⟩ rfl ?_ (hv := fun w hE => by have cB := cellb cB hE; have c0 := cellb c0 hE; have c1 := cellb c1 hE; (try dsimp only); go_simp; try rfl)
 simp only [Act.put, zS]
 refine zV 9 ⟨some 16, .binOp .leq 3 (.tmp 14) (.tmp 15) 3, 4, "valve.go:101", #[⟨7, .data⟩, ⟨8, .data⟩], none⟩ rfl ?_
 simp only [Act.put, zS]
 refine zB 2 ⟨some 9, .call ⟨.value (.func 59), #[.tmp 8, .const (.int .i64 0), .const (.int .i64 100000)], #[3, 3, 3]⟩, 27, "valve.go:101", #[⟨1, .data⟩], none⟩ (fun w hE => ofPure (T0.out w)) rfl ?_
 simp only [Act.put, zS]
 refine zB 5 ⟨some 12, .call ⟨.value (.func 59), #[.tmp 11, .const (.int .i64 0), .const (.int .i64 4095)], #[3, 3, 3]⟩, 27, "valve.go:101", #[⟨4, .data⟩, ⟨2, .chain⟩], none⟩ (fun w hE => ofPure (T1.out w)) rfl ?_
 simp only [Act.put, zS]
 refine zB 10 ⟨some 17, .call ⟨.value (.func 47), #[.tmp 16, .const (.int .i64 11)], #[4, 27]⟩, 27, "valve.go:101", #[⟨9, .data⟩, ⟨5, .chain⟩], none⟩ (fun w hE => ofPure (T2.out w)) rfl ?_
 simp only [Act.put, zS]
 refine wpAnyE_one (i := 11) (o := ⟨some 18, .buildSlice 150 3 #[(0, .tmp 9), (1, .tmp 12), (2, .tmp 17)], 150, "valve.go:101", #[⟨2, .data⟩, ⟨5, .data⟩, ⟨10, .data⟩], none⟩) (by kernel_rfl) rfl (fun wy1 hE K hK => ?_)
 have cB := cellb cB hE
 have c0 := cellb c0 hE
 have c1 := cellb c1 hE
 have hblk := hblk.carry hE
 have hbz1 := bthen hbz hE
 clear hE
 go_simp
 obtain ⟨wx1, hwz⟩ : ∃ v, v = wy1.alloc (Obj.cells #[.int .i64 e0, .int .i64 e1, .int .i64 e2] 27) := ⟨_, rfl⟩
 rw [← hwz]
 have hl : Below wy1.heap.size wy1 wx1 := by rw [hwz]; exact below_new _ _
 have hcz1 := bthen hbz1 hl
 have iN : BlkI wx1 wy1.heap.size 27 [e0, e1, e2] := by rw [hwz]; exact Blk.new _ _ _
 generalize wy1.heap.size = G at iN ⊢
 have cB := cellb cB hl
 have c0 := cellb c0 hl
 have c1 := cellb c1 hl
 have hblk := hblk.carry hl
 clear hwz
 refine hK _ _ (fun _ => hl) ?_
 clear hK K hl
 try simp only [Act.put, zS]
 refine zB 12 ⟨some 19, .call ⟨.value (.func 46), #[.tmp 18], #[150]⟩, 27, "valve.go:101", #[⟨11, .data⟩, ⟨10, .chain⟩], none⟩ (fun w hE => ofPure (TF.out _ w ((BlkI.ints iN rfl).carry hE))) rfl ?_
 simp only [Act.put, zS]
 refine wpAnyE_one (i := 13) (o := ⟨some 6, .assign (.tmp 19), 27, "valve.go:101", #[⟨12, .data⟩, ⟨12, .chain⟩, ⟨0, .phase⟩, ⟨1, .phase⟩, ⟨2, .phase⟩, ⟨3, .phase⟩, ⟨4, .phase⟩, ⟨5, .phase⟩, ⟨6, .phase⟩, ⟨7, .phase⟩, ⟨8, .phase⟩, ⟨9, .phase⟩, ⟨10, .phase⟩, ⟨11, .phase⟩, ⟨12, .phase⟩], none⟩) (by kernel_rfl) rfl (fun wy2 hE K hK => ?_)
 have cB := cellb cB hE
 have c0 := cellb c0 hE
 have c1 := cellb c1 hE
 have hblk := hblk.carry hE
 have hbz2 := bthen hcz1 hE
 go_simp
 refine hK _ _ (fun _ => Below.refl _ _) ?_
 clear hK K hE
 try simp only [Act.put, zS]
 refine wpAnyE_done (by kernel_rfl) (fun wy3 hE => ?_) _
 have hbz3 := bthen hbz2 hE
 have cB := cellb cB hE
 have c0 := cellb c0 hE
 have c1 := cellb c1 hE
 have hblk := hblk.carry hE
 clear hE
 have hB := hbz3
 obtain ⟨W9, hW9⟩ : ∃ v, v = wy3 := ⟨_, rfl⟩
 rw [← hW9] at hB cB c0 c1 hblk ⊢
 clear hW9
 have fB := Blk.frozen hblk 0
 go_wp2
 go_ret
 have hbase : Below base w W9 := hB.mono (by omega)
 refine ⟨rfl, hbase.setCell hb0 _, ?_⟩
 exact BlkI.set hblk 0 _
set_option maxRecDepth 100000 in
set_option maxHeartbeats 1000000 in
theorem CheckOutages1_any (i : Int) (x y z last : Int) (B base : Nat) (w : World) (hb0 : base ≤ B) (hblk : BlkI w B 3 [last]) :
 Calls Tryz.prog 185 #[.int .i64 i, .agg #[.int .i64 x, .int .i64 y, .int .i64 z], .pointer (some ⟨B, 0, none⟩)] w fun r w' => r = .returned (.int .i64 (firstE [withinE x 0 100000, withinE y 0 100, withinE z 0 1000000, whenE (decide (x ≤ last)) 11])) ∧ Below base w w' ∧ BlkI w' B 3 [x] := by
 have T0 := Lib.hid (fun W => within_any x 0 100000 W)
 have T1 := Lib.hid (fun W => within_any y 0 100 W)
 have T2 := Lib.hid (fun W => within_any z 0 1000000 W)
 have T3 := Lib.hid (fun W => when_any (decide (x ≤ last)) 11 W)
 obtain ⟨e0, he0⟩ : ∃ e, e = withinE x 0 100000 := ⟨_, rfl⟩
 obtain ⟨e1, he1⟩ : ∃ e, e = withinE y 0 100 := ⟨_, rfl⟩
 obtain ⟨e2, he2⟩ : ∃ e, e = withinE z 0 1000000 := ⟨_, rfl⟩
 obtain ⟨e3, he3⟩ : ∃ e, e = whenE (decide (x ≤ last)) 11 := ⟨_, rfl⟩
 rw [← he0] at T0
 rw [← he1] at T1
 rw [← he2] at T2
 rw [← he3] at T3
 rw [← he0, ← he1, ← he2, ← he3]
 clear he0 he1 he2 he3
 have TF := Lib.hid (fun (u : Value) (W : World) (h : Ints W u [e0, e1, e2, e3]) => first_any u _ W (by simp [maxLen]) h)
 have hlt := Blk.lt hblk
 go_enter Tryz.func185, Tryz.ntmps185
 go_upto_region 1 with fail
 obtain ⟨W1, hW1⟩ : ∃ v, v = World.alloc w (Obj.cells #[.int .i64 x, .int .i64 y, .int .i64 z] 165) := ⟨_, rfl⟩
 have kW1 : Below w.heap.size w W1 := by rw [hW1]; exact below_new _ _
 have iW1 : Blk W1 (w.heap.size) 165 [.int .i64 x, .int .i64 y, .int .i64 z] := by rw [hW1]; exact Blk.new _ _ _
 have sW1 : W1.heap.size = w.heap.size + 1 := by rw [hW1]; simp
 rw [← hW1]
 clear hW1
 have c0 := iW1.cell (j := 0) (v := .int .i64 x) rfl
 have c1 := iW1.cell (j := 1) (v := .int .i64 y) rfl
 have c2 := iW1.cell (j := 2) (v := .int .i64 z) rfl
 have hB := kW1
 replace hblk := Blk.carry hblk kW1
 have cB := BlkI.cell hblk (j := 0) (by simp)
 simp only [List.getElem?_cons_zero, Option.getD_some] at cB
 clear iW1 sW1 kW1
 refine wp_region_E 16 (by kernel_rfl) ?_
 obtain ⟨wz, hwz⟩ : ∃ v, v = W1.drew := ⟨_, rfl⟩
 rw [← hwz]
 have hlz : Below W1.heap.size W1 wz := by rw [hwz]; exact (Below.refl _ _).drew
 have hbz := bthen hB hlz
 have cB := cellb cB hlz
 have c0 := cellb c0 hlz
 have c1 := cellb c1 hlz
 have c2 := cellb c2 hlz
 have hblk := hblk.carry hlz
 clear hwz hlz
 refine zV 0 ⟨some 7, .fieldAddr 165 (.tmp 4) 0, 0, "plan.go:52", #[], none⟩ rfl ?_
 simp only [Act.put, zS]
 refine zV 1 ⟨some 8, .load 3 (.tmp 7), 3, "plan.go:52", #[⟨0, .data⟩], none⟩ rfl ?_ (hv := fun w hE => by have cB := cellb cB hE; have c0 := cellb c0 hE; have c1 := cellb c1 hE; have c2 := cellb c2 hE; (try dsimp only); go_simp; try rfl)
 simp only [Act.put, zS]
 refine zV 3 ⟨some 10, .fieldAddr 165 (.tmp 4) 1, 0, "plan.go:52", #[], none⟩ rfl ?_
 simp only [Act.put, zS]
 refine zV 4 ⟨some 11, .load 3 (.tmp 10), 3, "plan.go:52", #[⟨3, .data⟩], none⟩ rfl ?_ (hv := fun w hE => by have cB := cellb cB hE; have c0 := cellb c0 hE; have c1 := cellb c1 hE; have c2 := cellb c2 hE; (try dsimp only); go_simp; try rfl)
 simp only [Act.put, zS]
 refine zV 6 ⟨some 13, .fieldAddr 165 (.tmp 4) 2, 0, "plan.go:52", #[], none⟩ rfl ?_
 simp only [Act.put, zS]
 refine zV 7 ⟨some 14, .load 3 (.tmp 13), 3, "plan.go:52", #[⟨6, .data⟩], none⟩ rfl ?_ (hv := fun w hE => by have cB := cellb cB hE; have c0 := cellb c0 hE; have c1 := cellb c1 hE; have c2 := cellb c2 hE; (try dsimp only); go_simp; try rfl)
 simp only [Act.put, zS]
 refine zV 9 ⟨some 16, .fieldAddr 165 (.tmp 4) 0, 0, "plan.go:52", #[], none⟩ rfl ?_
 simp only [Act.put, zS]
 refine zV 10 ⟨some 17, .load 3 (.tmp 16), 3, "plan.go:52", #[⟨9, .data⟩], none⟩ rfl ?_ (hv := fun w hE => by have cB := cellb cB hE; have c0 := cellb c0 hE; have c1 := cellb c1 hE; have c2 := cellb c2 hE; (try dsimp only); go_simp; try rfl)
 simp only [Act.put, zS]
 refine zV 11 ⟨some 18, .load 3 (.tmp 2), 3, "plan.go:52", #[], none⟩ rfl ?_ (hv := fun w hE => by have cB := cellb cB hE; have c0 := cellb c0 hE; have c1 := cellb c1 hE; have c2 := cellb c2 hE; (try dsimp only); go_simp; try rfl)
 simp only [Act.put, zS]
 refine zV 12 ⟨some 19, .binOp .leq 3 (.tmp 17) (.tmp 18) 3, 4, "plan.go:52", #[⟨10, .data⟩, ⟨11, .data⟩], none⟩ rfl ?_
 simp only [Act.put, zS]
 refine zB 2 ⟨some 9, .call ⟨.value (.func 59), #[.tmp 8, .const (.int .i64 0), .const (.int .i64 100000)], #[3, 3, 3]⟩, 27, "plan.go:52", #[⟨1, .data⟩], none⟩ (fun w hE => ofPure (T0.out w)) rfl ?_
 simp only [Act.put, zS]
 refine zB 5 ⟨some 12, .call ⟨.value (.func 59), #[.tmp 11, .const (.int .i64 0), .const (.int .i64 100)], #[3, 3, 3]⟩, 27, "plan.go:52", #[⟨4, .data⟩, ⟨2, .chain⟩], none⟩ (fun w hE => ofPure (T1.out w)) rfl ?_
 simp only [Act.put, zS]
 refine zB 8 ⟨some 15, .call ⟨.value (.func 59), #[.tmp 14, .const (.int .i64 0), .const (.int .i64 1000000)], #[3, 3, 3]⟩, 27, "plan.go:52", #[⟨7, .data⟩, ⟨5, .chain⟩], none⟩ (fun w hE => ofPure (T2.out w)) rfl ?_
 simp only [Act.put, zS]
 refine zB 13 ⟨some 20, .call ⟨.value (.func 47), #[.tmp 19, .const (.int .i64 11)], #[4, 27]⟩, 27, "plan.go:52", #[⟨12, .data⟩, ⟨8, .chain⟩], none⟩ (fun w hE => ofPure (T3.out w)) rfl ?_
 simp only [Act.put, zS]
 refine wpAnyE_one (i := 14) (o := ⟨some 21, .buildSlice 150 4 #[(0, .tmp 9), (1, .tmp 12), (2, .tmp 15), (3, .tmp 20)], 150, "plan.go:52", #[⟨2, .data⟩, ⟨5, .data⟩, ⟨8, .data⟩, ⟨13, .data⟩], none⟩) (by kernel_rfl) rfl (fun wy1 hE K hK => ?_)
 have cB := cellb cB hE
 have c0 := cellb c0 hE
 have c1 := cellb c1 hE
 have c2 := cellb c2 hE
 have hblk := hblk.carry hE
 have hbz1 := bthen hbz hE
 clear hE
 go_simp
 obtain ⟨wx1, hwz⟩ : ∃ v, v = wy1.alloc (Obj.cells #[.int .i64 e0, .int .i64 e1, .int .i64 e2, .int .i64 e3] 27) := ⟨_, rfl⟩
 rw [← hwz]
 have hl : Below wy1.heap.size wy1 wx1 := by rw [hwz]; exact below_new _ _
 have hcz1 := bthen hbz1 hl
 have iN : BlkI wx1 wy1.heap.size 27 [e0, e1, e2, e3] := by rw [hwz]; exact Blk.new _ _ _
 generalize wy1.heap.size = G at iN ⊢
 have cB := cellb cB hl
 have c0 := cellb c0 hl
 have c1 := cellb c1 hl
 have c2 := cellb c2 hl
 have hblk := hblk.carry hl
 clear hwz
 refine hK _ _ (fun _ => hl) ?_
 clear hK K hl
 try simp only [Act.put, zS]
 refine zB 15 ⟨some 22, .call ⟨.value (.func 46), #[.tmp 21], #[150]⟩, 27, "plan.go:52", #[⟨14, .data⟩, ⟨13, .chain⟩], none⟩ (fun w hE => ofPure (TF.out _ w ((BlkI.ints iN rfl).carry hE))) rfl ?_
 simp only [Act.put, zS]
 refine wpAnyE_one (i := 16) (o := ⟨some 6, .assign (.tmp 22), 27, "plan.go:52", #[⟨15, .data⟩, ⟨15, .chain⟩, ⟨0, .phase⟩, ⟨1, .phase⟩, ⟨2, .phase⟩, ⟨3, .phase⟩, ⟨4, .phase⟩, ⟨5, .phase⟩, ⟨6, .phase⟩, ⟨7, .phase⟩, ⟨8, .phase⟩, ⟨9, .phase⟩, ⟨10, .phase⟩, ⟨11, .phase⟩, ⟨12, .phase⟩, ⟨13, .phase⟩, ⟨14, .phase⟩, ⟨15, .phase⟩], none⟩) (by kernel_rfl) rfl (fun wy2 hE K hK => ?_)
 have cB := cellb cB hE
 have c0 := cellb c0 hE
 have c1 := cellb c1 hE
 have c2 := cellb c2 hE
 have hblk := hblk.carry hE
 have hbz2 := bthen hcz1 hE
 go_simp
 refine hK _ _ (fun _ => Below.refl _ _) ?_
 clear hK K hE
 try simp only [Act.put, zS]
 refine wpAnyE_done (by kernel_rfl) (fun wy3 hE => ?_) _
 have hbz3 := bthen hbz2 hE
 have cB := cellb cB hE
 have c0 := cellb c0 hE
 have c1 := cellb c1 hE
 have c2 := cellb c2 hE
 have hblk := hblk.carry hE
 clear hE
 have hB := hbz3
 obtain ⟨W9, hW9⟩ : ∃ v, v = wy3 := ⟨_, rfl⟩
 rw [← hW9] at hB cB c0 c1 c2 hblk ⊢
 clear hW9
 have fB := Blk.frozen hblk 0
 go_wp2
 go_ret
 have hbase : Below base w W9 := hB.mono (by omega)
 refine ⟨rfl, hbase.setCell hb0 _, ?_⟩
 exact BlkI.set hblk 0 _
theorem first2 (a b : Int) (T : TypeId) (w : World) :
 Calls Tryz.prog 46 #[.slice (some ⟨w.heap.size, 0, none⟩) 2 2] (w.alloc (.cells #[.int .i64 a, .int .i64 b] T)) fun r w' => r = .returned (.int .i64 (firstE [a, b])) ∧ w.alloc (.cells #[.int .i64 a, .int .i64 b] T) = w' :=
 first_any _ [a, b] _ (by simp [maxLen]) (Ints.lit w T [a, b] 2 rfl)
theorem first3 (a b c : Int) (T : TypeId) (w : World) :
 Calls Tryz.prog 46 #[.slice (some ⟨w.heap.size, 0, none⟩) 3 3] (w.alloc (.cells #[.int .i64 a, .int .i64 b, .int .i64 c] T)) fun r w' => r = .returned (.int .i64 (firstE [a, b, c])) ∧ w.alloc (.cells #[.int .i64 a, .int .i64 b, .int .i64 c] T) = w' :=
 first_any _ [a, b, c] _ (by simp [maxLen]) (Ints.lit w T [a, b, c] 3 rfl)
set_option maxHeartbeats 1000000 in
theorem Wear1_any (i n : Int) (w : World) :
 Calls Tryz.prog 78 #[.int .i64 i, .int .i64 n] w fun r w' => r = .returned (.int .i64 (withinE n 0 1024)) ∧ w = w' := by
 go_enter Tryz.func78, Tryz.ntmps78
 go_wp2_with fail
 refine (within_any _ _ _ _).mono ?_
 rintro e w' ⟨rfl, rfl⟩
 go_wp2
 go_ret
 exact ⟨rfl, rfl⟩
set_option maxHeartbeats 1000000 in
theorem CheckPrices1_any (i n : Int) (w : World) :
 Calls Tryz.prog 97 #[.int .i64 i, .int .i64 n] w fun r w' => r = .returned (.int .i64 (withinE n 0 1000000)) ∧ w = w' := by
 go_enter Tryz.func97, Tryz.ntmps97
 go_wp2_with fail
 refine (within_any _ _ _ _).mono ?_
 rintro e w' ⟨rfl, rfl⟩
 go_wp2
 go_ret
 exact ⟨rfl, rfl⟩
theorem Tryz.enterCT1 (args : Array Value) (w : World) : Sem.run Tryz.prog (callFunc 129 args) w = .ok (.enter 129 args) w :=
 MuLone.run_callFunc_enter Tryz.func129 (by kernel_rfl) rfl args w
theorem Tryz.enterCO1 (args : Array Value) (w : World) : Sem.run Tryz.prog (callFunc 185 args) w = .ok (.enter 185 args) w :=
 MuLone.run_callFunc_enter Tryz.func185 (by kernel_rfl) rfl args w
theorem Tryz.enterMi1 (args : Array Value) (w : World) : Sem.run Tryz.prog (callFunc 73 args) w = .ok (.enter 73 args) w :=
 MuLone.run_callFunc_enter Tryz.func73 (by kernel_rfl) rfl args w
theorem Tryz.enterWe1 (args : Array Value) (w : World) : Sem.run Tryz.prog (callFunc 78 args) w = .ok (.enter 78 args) w :=
 MuLone.run_callFunc_enter Tryz.func78 (by kernel_rfl) rfl args w
theorem Tryz.enterCP1 (args : Array Value) (w : World) : Sem.run Tryz.prog (callFunc 97 args) w = .ok (.enter 97 args) w :=
 MuLone.run_callFunc_enter Tryz.func97 (by kernel_rfl) rfl args w
theorem Tryz.enterSp1 (args : Array Value) (w : World) : Sem.run Tryz.prog (callFunc 102 args) w = .ok (.enter 102 args) w :=
 MuLone.run_callFunc_enter Tryz.func102 (by kernel_rfl) rfl args w
/-- the tick ahead of number k, -1 at the first. -/
def prevT (l : List P2) (k : Nat) : Int := if k = 0 then -1 else (l[k - 1]?.getD (0, 0)).1
def trainG (l : List P2) (k : Nat) (x : P2) : Int := firstE [withinE x.1 0 100000, withinE x.2 0 4095, whenE (decide (x.1 ≤ prevT l k)) 11]
/-- the first error of a train. -/
def trainE (l : List P2) : Int := if 256 < l.length then 5 else eachE (trainG l) l
def prevO (l : List I3) (k : Nat) : Int := if k = 0 then -1 else (l[k - 1]?.getD (0, 0, 0)).1
def outG (l : List I3) (k : Nat) (x : I3) : Int := firstE [withinE x.1 0 100000, withinE x.2.1 0 100, withinE x.2.2 0 1000000, whenE (decide (x.1 ≤ prevO l k)) 11]
def outE (l : List I3) : Int := if 6 < l.length then 5 else eachE (outG l) l
theorem prevT_succ {l : List P2} {k : Nat} {x : P2} (h : l[k]? = some x) : prevT l (k + 1) = x.1 := by
 simp [prevT, h]
theorem prevO_succ {l : List I3} {k : Nat} {x : I3} (h : l[k]? = some x) : prevO l (k + 1) = x.1 := by
 simp [prevO, h]
set_option maxRecDepth 100000 in
set_option maxHeartbeats 1000000 in
theorem CheckTrain_any (v : Value) (l : List P2) (w : World) (hl : l.length ≤ 1000000000) (hv : Rw 2 pV w v l) :
 Calls Tryz.prog 63 #[v] w fun r w' => r = .returned (.int .i64 (trainE l)) ∧ Below w.heap.size w w' := by
 have hv0 := hv
 obtain ⟨a, cp, rfl, hcp, -⟩ := hv0
 by_cases h9 : 256 < l.length
 ·have b9 : decide ((256 : Int) < (l.length : Int)) = true := by simp; omega
  have he : trainE l = 5 := by rw [trainE, if_pos h9]
  rw [he]
  clear he hv
  go_enter Tryz.func63, Tryz.ntmps63
  go_wp2
  go_ret
  exact ⟨rfl, Below.refl _ _⟩
 ·have b9 : decide ((256 : Int) < (l.length : Int)) = false := by simp; omega
  have he : trainE l = eachE (trainG l) l := by rw [trainE, if_neg h9]
  rw [he]
  have TE := Lib.hid (fun (W : World) (B : Nat) (hW : Below w.heap.size w W) (hB : w.heap.size ≤ B) (hb : BlkI W B 3 [-1]) => eachP_any 129 #[.pointer (some ⟨B, 0, none⟩)] Tryz.enterCT1 (trainG l) (fun k W => BlkI W B 3 [prevT l k]) w.heap.size (.slice a l.length cp) l W hl hW.size (fun w1 h1 => hv.carry (hW.trans h1)) hb (fun k w1 w2 h1 h2 => Blk.carry h1 h2) (fun k x hx w1 h1 h2 => (CheckTrain1_any k x.1 x.2 (prevT l k) B w.heap.size w1 hB h2).mono (fun r w2 ⟨hr, hb2, hk2⟩ => ⟨hr, hb2, fun _ => by rw [prevT_succ hx]; exact hk2⟩)))
  clear he h9
  generalize eachE (trainG l) l = E at TE ⊢
  go_enter Tryz.func63, Tryz.ntmps63
  go_upto_region 4 with fail
  obtain ⟨W1, hW1⟩ : ∃ v, v = World.alloc w (Obj.cells #[.int .i64 (-1)] 3) := ⟨_, rfl⟩
  have kW1 : Below w.heap.size w W1 := by rw [hW1]; exact below_new _ _
  have iW1 : Blk W1 (w.heap.size) 3 [.int .i64 (-1)] := by rw [hW1]; exact Blk.new _ _ _
  have sW1 : W1.heap.size = w.heap.size + 1 := by rw [hW1]; simp
  rw [← hW1]
  clear hW1
  have i1 : BlkI W1 w.heap.size 3 [-1] := iW1
  clear iW1 sW1
  go_wp2_with fail
  refine (TE.out W1 w.heap.size kW1 (Nat.le_refl _) i1).mono ?_
  rintro e w2 ⟨rfl, hb2⟩
  go_wp2
  go_ret
  exact ⟨rfl, kW1.trans hb2⟩
set_option maxRecDepth 100000 in
set_option maxHeartbeats 1000000 in
theorem CheckOutages_any (v : Value) (l : List I3) (w : World) (hl : l.length ≤ 1000000000) (hv : Rw 3 iV w v l) :
 Calls Tryz.prog 142 #[v] w fun r w' => r = .returned (.int .i64 (outE l)) ∧ Below w.heap.size w w' := by
 have hv0 := hv
 obtain ⟨a, cp, rfl, hcp, -⟩ := hv0
 by_cases h9 : 6 < l.length
 ·have b9 : decide ((6 : Int) < (l.length : Int)) = true := by simp; omega
  have he : outE l = 5 := by rw [outE, if_pos h9]
  rw [he]
  clear he hv
  go_enter Tryz.func142, Tryz.ntmps142
  go_wp2
  go_ret
  exact ⟨rfl, Below.refl _ _⟩
 ·have b9 : decide ((6 : Int) < (l.length : Int)) = false := by simp; omega
  have he : outE l = eachE (outG l) l := by rw [outE, if_neg h9]
  rw [he]
  have TE := Lib.hid (fun (W : World) (B : Nat) (hW : Below w.heap.size w W) (hB : w.heap.size ≤ B) (hb : BlkI W B 3 [-1]) => eachO_any 185 #[.pointer (some ⟨B, 0, none⟩)] Tryz.enterCO1 (outG l) (fun k W => BlkI W B 3 [prevO l k]) w.heap.size (.slice a l.length cp) l W hl hW.size (fun w1 h1 => hv.carry (hW.trans h1)) hb (fun k w1 w2 h1 h2 => Blk.carry h1 h2) (fun k x hx w1 h1 h2 => (CheckOutages1_any k x.1 x.2.1 x.2.2 (prevO l k) B w.heap.size w1 hB h2).mono (fun r w2 ⟨hr, hb2, hk2⟩ => ⟨hr, hb2, fun _ => by rw [prevO_succ hx]; exact hk2⟩)))
  clear he h9
  generalize eachE (outG l) l = E at TE ⊢
  go_enter Tryz.func142, Tryz.ntmps142
  go_upto_region 4 with fail
  obtain ⟨W1, hW1⟩ : ∃ v, v = World.alloc w (Obj.cells #[.int .i64 (-1)] 3) := ⟨_, rfl⟩
  have kW1 : Below w.heap.size w W1 := by rw [hW1]; exact below_new _ _
  have iW1 : Blk W1 (w.heap.size) 3 [.int .i64 (-1)] := by rw [hW1]; exact Blk.new _ _ _
  have sW1 : W1.heap.size = w.heap.size + 1 := by rw [hW1]; simp
  rw [← hW1]
  clear hW1
  have i1 : BlkI W1 w.heap.size 3 [-1] := iW1
  clear iW1 sW1
  go_wp2_with fail
  refine (TE.out W1 w.heap.size kW1 (Nat.le_refl _) i1).mono ?_
  rintro e w2 ⟨rfl, hb2⟩
  go_wp2
  go_ret
  exact ⟨rfl, kW1.trans hb2⟩
end Go.Proofs.YtpmngcffkhbofaaGreatDoor

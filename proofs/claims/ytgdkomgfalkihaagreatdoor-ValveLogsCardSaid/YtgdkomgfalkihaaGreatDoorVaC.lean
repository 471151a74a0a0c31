/- Package valve: checks of trains, logs, outages, acknowledgements, deliveries. (printed by gen/valC.py) -/
import Derived.Test.YtgdkomgfalkihaaGreatDoorVaB
namespace Go.Proofs.YtgdkomgfalkihaaGreatDoor
set_option linter.unusedSimpArgs false
set_option linter.unusedVariables false
open Go.RowKit
set_option maxRecDepth 100000 in
set_option maxHeartbeats 1000000 in
theorem Missing1_any (i : Int) (x y : Int) (w : World) :
 Calls Tryz.prog 99 #[.int .i64 i, .agg #[.int .i64 x, .int .i64 y]] w fun r w' => r = .returned (.int .i64 (firstE [withinE x 0 11, withinE y 0 100000])) ∧ Below w.heap.size w w' := by
 have T0 := Lib.hid (fun W => within_any x 0 11 W)
 have T1 := Lib.hid (fun W => within_any y 0 100000 W)
 obtain ⟨e0, he0⟩ : ∃ e, e = withinE x 0 11 := ⟨_, rfl⟩
 obtain ⟨e1, he1⟩ : ∃ e, e = withinE y 0 100000 := ⟨_, rfl⟩
 rw [← he0] at T0
 rw [← he1] at T1
 rw [← he0, ← he1]
 clear he0 he1
 have TF := Lib.hid (fun (u : Value) (W : World) (h : Ints W u [e0, e1]) => first_any u _ W (by simp [maxLen]) h)
 go_enter Tryz.func99, Tryz.ntmps99
 go_upto_region 1 with fail
 obtain ⟨W1, hW1⟩ : ∃ v, v = World.alloc w (Obj.cells #[.int .i64 x, .int .i64 y] 114) := ⟨_, rfl⟩
 have kW1 : Below w.heap.size w W1 := by rw [hW1]; exact below_new _ _
 have iW1 : Blk W1 (w.heap.size) 114 [.int .i64 x, .int .i64 y] := by rw [hW1]; exact Blk.new _ _ _
 have sW1 : W1.heap.size = w.heap.size + 1 := by rw [hW1]; simp
 rw [← hW1]
 clear hW1
 have c0 := iW1.cell (j := 0) (v := .int .i64 x) rfl
 have c1 := iW1.cell (j := 1) (v := .int .i64 y) rfl
 have hB := kW1
 clear iW1 sW1 kW1
 refine wp_region_E 8 (by kernel_rfl) ?_
 obtain ⟨wz, hwz⟩ : ∃ v, v = W1.drew := ⟨_, rfl⟩
 rw [← hwz]
 have hlz : Below W1.heap.size W1 wz := by rw [hwz]; exact (Below.refl _ _).drew
 have hbz := bthen hB hlz
 have c0 := cellb c0 hlz
 have c1 := cellb c1 hlz
 clear hwz hlz
 refine zT 0 { dst := some 5, op := Op.fieldAddr 114 (Operand.tmp 3) 0, type := 0, pos := "valve.go:325", after := #[], guard := none } (v := ?_) rfl (Or.inl ⟨by rfl, ?_⟩) ?_
 rotate_left
 ·(intro w hE; have c0 := cellb c0 hE; have c1 := cellb c1 hE; (try dsimp only); go_simp); (try with_reducible rfl)
 try simp only [Act.put, zS]
 refine zT 1 { dst := some 6, op := Op.load 3 (Operand.tmp 5), type := 3, pos := "valve.go:325", after := #[{ on := 0, ground := Ground.data }], guard := none } (v := ?_) rfl (Or.inl ⟨by rfl, ?_⟩) ?_
 rotate_left
 ·(intro w hE; have c0 := cellb c0 hE; have c1 := cellb c1 hE; (try dsimp only); go_simp); (try with_reducible rfl)
 try simp only [Act.put, zS]
 refine zT 3 { dst := some 8, op := Op.fieldAddr 114 (Operand.tmp 3) 1, type := 0, pos := "valve.go:325", after := #[], guard := none } (v := ?_) rfl (Or.inl ⟨by rfl, ?_⟩) ?_
 rotate_left
 ·(intro w hE; have c0 := cellb c0 hE; have c1 := cellb c1 hE; (try dsimp only); go_simp); (try with_reducible rfl)
 try simp only [Act.put, zS]
 refine zT 4 { dst := some 9, op := Op.load 3 (Operand.tmp 8), type := 3, pos := "valve.go:325", after := #[{ on := 3, ground := Ground.data }], guard := none } (v := ?_) rfl (Or.inl ⟨by rfl, ?_⟩) ?_
 rotate_left
 ·(intro w hE; have c0 := cellb c0 hE; have c1 := cellb c1 hE; (try dsimp only); go_simp); (try with_reducible rfl)
 try simp only [Act.put, zS]
 refine zC 2 { dst := some 7, op := Op.call { callee := Callee.value (Operand.func 74), args := #[Operand.tmp 6, Operand.const (Value.int IntKind.i64 0), Operand.const (Value.int IntKind.i64 11)], argTypes := #[3, 3, 3] }, type := 28, pos := "valve.go:325", after := #[{ on := 1, ground := Ground.data }], guard := none } (fun w hE => ofPure (T0.out w)) rfl (by rfl) (fun w hE => by (try dsimp only); go_simp) ?_
 try simp only [Act.put, zS]
 refine zC 5 { dst := some 10, op := Op.call { callee := Callee.value (Operand.func 74), args := #[Operand.tmp 9, Operand.const (Value.int IntKind.i64 0), Operand.const (Value.int IntKind.i64 100000)], argTypes := #[3, 3, 3] }, type := 28, pos := "valve.go:325", after := #[{ on := 4, ground := Ground.data }, { on := 2, ground := Ground.chain }], guard := none } (fun w hE => ofPure (T1.out w)) rfl (by rfl) (fun w hE => by (try dsimp only); go_simp) ?_
 try simp only [Act.put, zS]
 refine wpAnyE_one (i := 6) (o := { dst := some 11, op := Op.buildSlice 175 2 #[(0, Operand.tmp 7), (1, Operand.tmp 10)], type := 175, pos := "valve.go:325", after := #[{ on := 2, ground := Ground.data }, { on := 5, ground := Ground.data }], guard := none }) (by kernel_rfl) rfl (fun wy1 hE K hK => ?_)
 have c0 := cellb c0 hE
 have c1 := cellb c1 hE
 have hbz1 := bthen hbz hE
 clear hE
 go_simp
 obtain ⟨wx1, hwz⟩ : ∃ v, v = wy1.alloc (Obj.cells #[.int .i64 e0, .int .i64 e1] 28) := ⟨_, rfl⟩
 rw [← hwz]
 have hl : Below wy1.heap.size wy1 wx1 := by rw [hwz]; exact below_new _ _
 have hcz1 := bthen hbz1 hl
 have iN : BlkI wx1 wy1.heap.size 28 [e0, e1] := by rw [hwz]; exact Blk.new _ _ _
 generalize wy1.heap.size = G at iN ⊢
 have c0 := cellb c0 hl
 have c1 := cellb c1 hl
 clear hwz
 refine hK _ _ (fun _ => hl) ?_
 clear hK K hl
 try simp only [Act.put, zS]
 refine zC 7 { dst := some 12, op := Op.call { callee := Callee.value (Operand.func 71), args := #[Operand.tmp 11], argTypes := #[175] }, type := 28, pos := "valve.go:325", after := #[{ on := 6, ground := Ground.data }, { on := 5, ground := Ground.chain }], guard := none } (fun w hE => ofPure (TF.out _ w ((BlkI.ints iN rfl).carry hE))) rfl (by rfl) (fun w hE => by (try dsimp only); go_simp) ?_
 try simp only [Act.put, zS]
 refine wpAnyE_one (i := 8) (o := { dst := some 4, op := Op.assign (Operand.tmp 12), type := 28, pos := "valve.go:325", after := #[{ on := 7, ground := Ground.data }, { on := 7, ground := Ground.chain }, { on := 0, ground := Ground.phase }, { on := 1, ground := Ground.phase }, { on := 2, ground := Ground.phase }, { on := 3, ground := Ground.phase }, { on := 4, ground := Ground.phase }, { on := 5, ground := Ground.phase }, { on := 6, ground := Ground.phase }, { on := 7, ground := Ground.phase }], guard := none }) (by kernel_rfl) rfl (fun wy2 hE K hK => ?_)
 have c0 := cellb c0 hE
 have c1 := cellb c1 hE
 have hbz2 := bthen hcz1 hE
 go_simp
 refine hK _ _ (fun _ => Below.refl _ _) ?_
 clear hK K hE
 try simp only [Act.put, zS]
 refine wpAnyE_done (by kernel_rfl) (fun wy3 hE => ?_) _
 have hbz3 := bthen hbz2 hE
 have c0 := cellb c0 hE
 have c1 := cellb c1 hE
 clear hE
 have hB := hbz3
 obtain ⟨W9, hW9⟩ : ∃ v, v = wy3 := ⟨_, rfl⟩
 rw [← hW9] at hB c0 c1 ⊢
 clear hW9
 go_wp2
 go_ret
 exact ⟨rfl, hB⟩
set_option maxRecDepth 100000 in
set_option maxHeartbeats 1000000 in
theorem Spares1_any (i : Int) (x y : Int) (w : World) :
 Calls Tryz.prog 138 #[.int .i64 i, .agg #[.int .i64 x, .int .i64 y]] w fun r w' => r = .returned (.int .i64 (firstE [withinE x 0 100000, withinE y 1 100])) ∧ Below w.heap.size w w' := by
 have T0 := Lib.hid (fun W => within_any x 0 100000 W)
 have T1 := Lib.hid (fun W => within_any y 1 100 W)
 obtain ⟨e0, he0⟩ : ∃ e, e = withinE x 0 100000 := ⟨_, rfl⟩
 obtain ⟨e1, he1⟩ : ∃ e, e = withinE y 1 100 := ⟨_, rfl⟩
 rw [← he0] at T0
 rw [← he1] at T1
 rw [← he0, ← he1]
 clear he0 he1
 have TF := Lib.hid (fun (u : Value) (W : World) (h : Ints W u [e0, e1]) => first_any u _ W (by simp [maxLen]) h)
 go_enter Tryz.func138, Tryz.ntmps138
 go_upto_region 1 with fail
 obtain ⟨W1, hW1⟩ : ∃ v, v = World.alloc w (Obj.cells #[.int .i64 x, .int .i64 y] 130) := ⟨_, rfl⟩
 have kW1 : Below w.heap.size w W1 := by rw [hW1]; exact below_new _ _
 have iW1 : Blk W1 (w.heap.size) 130 [.int .i64 x, .int .i64 y] := by rw [hW1]; exact Blk.new _ _ _
 have sW1 : W1.heap.size = w.heap.size + 1 := by rw [hW1]; simp
 rw [← hW1]
 clear hW1
 have c0 := iW1.cell (j := 0) (v := .int .i64 x) rfl
 have c1 := iW1.cell (j := 1) (v := .int .i64 y) rfl
 have hB := kW1
 clear iW1 sW1 kW1
 refine wp_region_E 8 (by kernel_rfl) ?_
 obtain ⟨wz, hwz⟩ : ∃ v, v = W1.drew := ⟨_, rfl⟩
 rw [← hwz]
 have hlz : Below W1.heap.size W1 wz := by rw [hwz]; exact (Below.refl _ _).drew
 have hbz := bthen hB hlz
 have c0 := cellb c0 hlz
 have c1 := cellb c1 hlz
 clear hwz hlz
 refine zT 0 { dst := some 5, op := Op.fieldAddr 130 (Operand.tmp 3) 0, type := 0, pos := "plan.go:211", after := #[], guard := none } (v := ?_) rfl (Or.inl ⟨by rfl, ?_⟩) ?_
 rotate_left
 ·(intro w hE; have c0 := cellb c0 hE; have c1 := cellb c1 hE; (try dsimp only); go_simp); (try with_reducible rfl)
 try simp only [Act.put, zS]
 refine zT 1 { dst := some 6, op := Op.load 3 (Operand.tmp 5), type := 3, pos := "plan.go:211", after := #[{ on := 0, ground := Ground.data }], guard := none } (v := ?_) rfl (Or.inl ⟨by rfl, ?_⟩) ?_
 rotate_left
 ·(intro w hE; have c0 := cellb c0 hE; have c1 := cellb c1 hE; (try dsimp only); go_simp); (try with_reducible rfl)
 try simp only [Act.put, zS]
 refine zT 3 { dst := some 8, op := Op.fieldAddr 130 (Operand.tmp 3) 1, type := 0, pos := "plan.go:211", after := #[], guard := none } (v := ?_) rfl (Or.inl ⟨by rfl, ?_⟩) ?_
 rotate_left
 ·(intro w hE; have c0 := cellb c0 hE; have c1 := cellb c1 hE; (try dsimp only); go_simp); (try with_reducible rfl)
 try simp only [Act.put, zS]
 refine zT 4 { dst := some 9, op := Op.load 3 (Operand.tmp 8), type := 3, pos := "plan.go:211", after := #[{ on := 3, ground := Ground.data }], guard := none } (v := ?_) rfl (Or.inl ⟨by rfl, ?_⟩) ?_
 rotate_left
 ·(intro w hE; have c0 := cellb c0 hE; have c1 := cellb c1 hE; (try dsimp only); go_simp); (try with_reducible rfl)
 try simp only [Act.put, zS]
 refine zC 2 { dst := some 7, op := Op.call { callee := Callee.value (Operand.func 74), args := #[Operand.tmp 6, Operand.const (Value.int IntKind.i64 0), Operand.const (Value.int IntKind.i64 100000)], argTypes := #[3, 3, 3] }, type := 28, pos := "plan.go:211", after := #[{ on := 1, ground := Ground.data }], guard := none } (fun w hE => ofPure (T0.out w)) rfl (by rfl) (fun w hE => by (try dsimp only); go_simp) ?_
 try simp only [Act.put, zS]
 refine zC 5 { dst := some 10, op := Op.call { callee := Callee.value (Operand.func 74), args := #[Operand.tmp 9, Operand.const (Value.int IntKind.i64 1), Operand.const (Value.int IntKind.i64 100)], argTypes := #[3, 3, 3] }, type := 28, pos := "plan.go:211", after := #[{ on := 4, ground := Ground.data }, { on := 2, ground := Ground.chain }], guard := none } (fun w hE => ofPure (T1.out w)) rfl (by rfl) (fun w hE => by (try dsimp only); go_simp) ?_
 try simp only [Act.put, zS]
 refine wpAnyE_one (i := 6) (o := { dst := some 11, op := Op.buildSlice 175 2 #[(0, Operand.tmp 7), (1, Operand.tmp 10)], type := 175, pos := "plan.go:211", after := #[{ on := 2, ground := Ground.data }, { on := 5, ground := Ground.data }], guard := none }) (by kernel_rfl) rfl (fun wy1 hE K hK => ?_)
 have c0 := cellb c0 hE
 have c1 := cellb c1 hE
 have hbz1 := bthen hbz hE
 clear hE
 go_simp
 obtain ⟨wx1, hwz⟩ : ∃ v, v = wy1.alloc (Obj.cells #[.int .i64 e0, .int .i64 e1] 28) := ⟨_, rfl⟩
 rw [← hwz]
 have hl : Below wy1.heap.size wy1 wx1 := by rw [hwz]; exact below_new _ _
 have hcz1 := bthen hbz1 hl
 have iN : BlkI wx1 wy1.heap.size 28 [e0, e1] := by rw [hwz]; exact Blk.new _ _ _
 generalize wy1.heap.size = G at iN ⊢
 have c0 := cellb c0 hl
 have c1 := cellb c1 hl
 clear hwz
 refine hK _ _ (fun _ => hl) ?_
 clear hK K hl
 try simp only [Act.put, zS]
 refine zC 7 { dst := some 12, op := Op.call { callee := Callee.value (Operand.func 71), args := #[Operand.tmp 11], argTypes := #[175] }, type := 28, pos := "plan.go:211", after := #[{ on := 6, ground := Ground.data }, { on := 5, ground := Ground.chain }], guard := none } (fun w hE => ofPure (TF.out _ w ((BlkI.ints iN rfl).carry hE))) rfl (by rfl) (fun w hE => by (try dsimp only); go_simp) ?_
 try simp only [Act.put, zS]
 refine wpAnyE_one (i := 8) (o := { dst := some 4, op := Op.assign (Operand.tmp 12), type := 28, pos := "plan.go:211", after := #[{ on := 7, ground := Ground.data }, { on := 7, ground := Ground.chain }, { on := 0, ground := Ground.phase }, { on := 1, ground := Ground.phase }, { on := 2, ground := Ground.phase }, { on := 3, ground := Ground.phase }, { on := 4, ground := Ground.phase }, { on := 5, ground := Ground.phase }, { on := 6, ground := Ground.phase }, { on := 7, ground := Ground.phase }], guard := none }) (by kernel_rfl) rfl (fun wy2 hE K hK => ?_)
 have c0 := cellb c0 hE
 have c1 := cellb c1 hE
 have hbz2 := bthen hcz1 hE
 go_simp
 refine hK _ _ (fun _ => Below.refl _ _) ?_
 clear hK K hE
 try simp only [Act.put, zS]
 refine wpAnyE_done (by kernel_rfl) (fun wy3 hE => ?_) _
 have hbz3 := bthen hbz2 hE
 have c0 := cellb c0 hE
 have c1 := cellb c1 hE
 clear hE
 have hB := hbz3
 obtain ⟨W9, hW9⟩ : ∃ v, v = wy3 := ⟨_, rfl⟩
 rw [← hW9] at hB c0 c1 ⊢
 clear hW9
 go_wp2
 go_ret
 exact ⟨rfl, hB⟩
set_option maxRecDepth 100000 in
set_option maxHeartbeats 1000000 in
theorem CheckTrain1_any (i : Int) (x y last : Int) (B base : Nat) (w : World) (hb0 : base ≤ B) (hblk : BlkI w B 3 [last]) :
 Calls Tryz.prog 159 #[.int .i64 i, .agg #[.int .i64 x, .int .i64 y], .pointer (some ⟨B, 0, none⟩)] w fun r w' => r = .returned (.int .i64 (firstE [withinE x 0 100000, withinE y 0 4095, whenE (decide (x ≤ last)) 11])) ∧ Below base w w' ∧ BlkI w' B 3 [x] := by
 have T0 := Lib.hid (fun W => within_any x 0 100000 W)
 have T1 := Lib.hid (fun W => within_any y 0 4095 W)
 have T2 := Lib.hid (fun W => when_any (decide (x ≤ last)) 11 W)
 obtain ⟨e0, he0⟩ : ∃ e, e = withinE x 0 100000 := ⟨_, rfl⟩
 obtain ⟨e1, he1⟩ : ∃ e, e = withinE y 0 4095 := ⟨_, rfl⟩
 obtain ⟨e2, he2⟩ : ∃ e, e = whenE (decide (x ≤ last)) 11 := ⟨_, rfl⟩
 rw [← he0] at T0
 rw [← he1] at T1
 rw [← he2] at T2
 rw [← he0, ← he1, ← he2]
 clear he0 he1 he2
 have TF := Lib.hid (fun (u : Value) (W : World) (h : Ints W u [e0, e1, e2]) => first_any u _ W (by simp [maxLen]) h)
 have hlt := Blk.lt hblk
 go_enter Tryz.func159, Tryz.ntmps159
 go_upto_region 1 with fail
 obtain ⟨W1, hW1⟩ : ∃ v, v = World.alloc w (Obj.cells #[.int .i64 x, .int .i64 y] 139) := ⟨_, rfl⟩
 have kW1 : Below w.heap.size w W1 := by rw [hW1]; exact below_new _ _
 have iW1 : Blk W1 (w.heap.size) 139 [.int .i64 x, .int .i64 y] := by rw [hW1]; exact Blk.new _ _ _
 have sW1 : W1.heap.size = w.heap.size + 1 := by rw [hW1]; simp
 rw [← hW1]
 clear hW1
 have c0 := iW1.cell (j := 0) (v := .int .i64 x) rfl
 have c1 := iW1.cell (j := 1) (v := .int .i64 y) rfl
 have hB := kW1
 replace hblk := Blk.carry hblk kW1
 have cB := BlkI.cell hblk (j := 0) (by simp)
 simp only [List.getElem?_cons_zero, Option.getD_some] at cB
 clear iW1 sW1 kW1
 refine wp_region_E 13 (by kernel_rfl) ?_
 obtain ⟨wz, hwz⟩ : ∃ v, v = W1.drew := ⟨_, rfl⟩
 rw [← hwz]
 have hlz : Below W1.heap.size W1 wz := by rw [hwz]; exact (Below.refl _ _).drew
 have hbz := bthen hB hlz
 have cB := cellb cB hlz
 have c0 := cellb c0 hlz
 have c1 := cellb c1 hlz
 have hblk := hblk.carry hlz
 clear hwz hlz
 refine zT 0 { dst := some 7, op := Op.fieldAddr 139 (Operand.tmp 4) 0, type := 0, pos := "valve.go:101", after := #[], guard := none } (v := ?_) rfl (Or.inl ⟨by rfl, ?_⟩) ?_
 rotate_left
 ·(intro w hE; have cB := cellb cB hE; have c0 := cellb c0 hE; have c1 := cellb c1 hE; (try dsimp only); go_simp); (try with_reducible rfl)
 try simp only [Act.put, zS]
 refine zT 1 { dst := some 8, op := Op.load 3 (Operand.tmp 7), type := 3, pos := "valve.go:101", after := #[{ on := 0, ground := Ground.data }], guard := none } (v := ?_) rfl (Or.inl ⟨by rfl, ?_⟩) ?_
 rotate_left
 ·(intro w hE; have cB := cellb cB hE; have c0 := cellb c0 hE; have c1 := cellb c1 hE; (try dsimp only); go_simp); (try with_reducible rfl)
 try simp only [Act.put, zS]
 refine zT 3 { dst := some 10, op := Op.fieldAddr 139 (Operand.tmp 4) 1, type := 0, pos := "valve.go:101", after := #[], guard := none } (v := ?_) rfl (Or.inl ⟨by rfl, ?_⟩) ?_
 rotate_left
 ·(intro w hE; have cB := cellb cB hE; have c0 := cellb c0 hE; have c1 := cellb c1 hE; (try dsimp only); go_simp); (try with_reducible rfl)
 try simp only [Act.put, zS]
 refine zT 4 { dst := some 11, op := Op.load 3 (Operand.tmp 10), type := 3, pos := "valve.go:101", after := #[{ on := 3, ground := Ground.data }], guard := none } (v := ?_) rfl (Or.inl ⟨by rfl, ?_⟩) ?_
 rotate_left
 ·(intro w hE; have cB := cellb cB hE; have c0 := cellb c0 hE; have c1 := cellb c1 hE; (try dsimp only); go_simp); (try with_reducible rfl)
 try simp only [Act.put, zS]
 refine zT 6 { dst := some 13, op := Op.fieldAddr 139 (Operand.tmp 4) 0, type := 0, pos := "valve.go:101", after := #[], guard := none } (v := ?_) rfl (Or.inl ⟨by rfl, ?_⟩) ?_
 rotate_left
 ·(intro w hE; have cB := cellb cB hE; have c0 := cellb c0 hE; have c1 := cellb c1 hE; (try dsimp only); go_simp); (try with_reducible rfl)
 try simp only [Act.put, zS]
 refine zT 7 { dst := some 14, op := Op.load 3 (Operand.tmp 13), type := 3, pos := "valve.go:101", after := #[{ on := 6, ground := Ground.data }], guard := none } (v := ?_) rfl (Or.inl ⟨by rfl, ?_⟩) ?_
 rotate_left
 ·(intro w hE; have cB := cellb cB hE; have c0 := cellb c0 hE; have c1 := cellb c1 hE; (try dsimp only); go_simp); (try with_reducible rfl)
 try simp only [Act.put, zS]
 refine zT 8 { dst := some 15, op := Op.load 3 (Operand.tmp 2), type := 3, pos := "valve.go:101", after := #[], guard := none } (v := ?_) rfl (Or.inl ⟨by rfl, ?_⟩) ?_
 rotate_left
 ·(intro w hE; have cB := cellb cB hE; have c0 := cellb c0 hE; have c1 := cellb c1 hE; (try dsimp only); go_simp); (try with_reducible rfl)
 try simp only [Act.put, zS]
 refine zT 9 { dst := some 16, op := Op.binOp BinOp.leq 3 (Operand.tmp 14) (Operand.tmp 15) 3, type := 4, pos := "valve.go:101", after := #[{ on := 7, ground := Ground.data }, { on := 8, ground := Ground.data }], guard := none } (v := ?_) rfl (Or.inl ⟨by rfl, ?_⟩) ?_
 rotate_left
 ·(intro w hE; have cB := cellb cB hE; have c0 := cellb c0 hE; have c1 := cellb c1 hE; (try dsimp only); go_simp); (try with_reducible rfl)
 try simp only [Act.put, zS]
 refine zC 2 { dst := some 9, op := Op.call { callee := Callee.value (Operand.func 74), args := #[Operand.tmp 8, Operand.const (Value.int IntKind.i64 0), Operand.const (Value.int IntKind.i64 100000)], argTypes := #[3, 3, 3] }, type := 28, pos := "valve.go:101", after := #[{ on := 1, ground := Ground.data }], guard := none } (fun w hE => ofPure (T0.out w)) rfl (by rfl) (fun w hE => by (try dsimp only); go_simp) ?_
 try simp only [Act.put, zS]
 refine zC 5 { dst := some 12, op := Op.call { callee := Callee.value (Operand.func 74), args := #[Operand.tmp 11, Operand.const (Value.int IntKind.i64 0), Operand.const (Value.int IntKind.i64 4095)], argTypes := #[3, 3, 3] }, type := 28, pos := "valve.go:101", after := #[{ on := 4, ground := Ground.data }, { on := 2, ground := Ground.chain }], guard := none } (fun w hE => ofPure (T1.out w)) rfl (by rfl) (fun w hE => by (try dsimp only); go_simp) ?_
 try simp only [Act.put, zS]
 refine zC 10 { dst := some 17, op := Op.call { callee := Callee.value (Operand.func 97), args := #[Operand.tmp 16, Operand.const (Value.int IntKind.i64 11)], argTypes := #[4, 28] }, type := 28, pos := "valve.go:101", after := #[{ on := 9, ground := Ground.data }, { on := 5, ground := Ground.chain }], guard := none } (fun w hE => ofPure (T2.out w)) rfl (by rfl) (fun w hE => by (try dsimp only); go_simp) ?_
 try simp only [Act.put, zS]
 refine wpAnyE_one (i := 11) (o := { dst := some 18, op := Op.buildSlice 175 3 #[(0, Operand.tmp 9), (1, Operand.tmp 12), (2, Operand.tmp 17)], type := 175, pos := "valve.go:101", after := #[{ on := 2, ground := Ground.data }, { on := 5, ground := Ground.data }, { on := 10, ground := Ground.data }], guard := none }) (by kernel_rfl) rfl (fun wy1 hE K hK => ?_)
 have cB := cellb cB hE
 have c0 := cellb c0 hE
 have c1 := cellb c1 hE
 have hblk := hblk.carry hE
 have hbz1 := bthen hbz hE
 clear hE
 go_simp
 obtain ⟨wx1, hwz⟩ : ∃ v, v = wy1.alloc (Obj.cells #[.int .i64 e0, .int .i64 e1, .int .i64 e2] 28) := ⟨_, rfl⟩
 rw [← hwz]
 have hl : Below wy1.heap.size wy1 wx1 := by rw [hwz]; exact below_new _ _
 have hcz1 := bthen hbz1 hl
 have iN : BlkI wx1 wy1.heap.size 28 [e0, e1, e2] := by rw [hwz]; exact Blk.new _ _ _
 generalize wy1.heap.size = G at iN ⊢
 have cB := cellb cB hl
 have c0 := cellb c0 hl
 have c1 := cellb c1 hl
 have hblk := hblk.carry hl
 clear hwz
 refine hK _ _ (fun _ => hl) ?_
 clear hK K hl
 try simp only [Act.put, zS]
 refine zC 12 { dst := some 19, op := Op.call { callee := Callee.value (Operand.func 71), args := #[Operand.tmp 18], argTypes := #[175] }, type := 28, pos := "valve.go:101", after := #[{ on := 11, ground := Ground.data }, { on := 10, ground := Ground.chain }], guard := none } (fun w hE => ofPure (TF.out _ w ((BlkI.ints iN rfl).carry hE))) rfl (by rfl) (fun w hE => by (try dsimp only); go_simp) ?_
 try simp only [Act.put, zS]
 refine wpAnyE_one (i := 13) (o := { dst := some 6, op := Op.assign (Operand.tmp 19), type := 28, pos := "valve.go:101", after := #[{ on := 12, ground := Ground.data }, { on := 12, ground := Ground.chain }, { on := 0, ground := Ground.phase }, { on := 1, ground := Ground.phase }, { on := 2, ground := Ground.phase }, { on := 3, ground := Ground.phase }, { on := 4, ground := Ground.phase }, { on := 5, ground := Ground.phase }, { on := 6, ground := Ground.phase }, { on := 7, ground := Ground.phase }, { on := 8, ground := Ground.phase }, { on := 9, ground := Ground.phase }, { on := 10, ground := Ground.phase }, { on := 11, ground := Ground.phase }, { on := 12, ground := Ground.phase }], guard := none }) (by kernel_rfl) rfl (fun wy2 hE K hK => ?_)
 have cB := cellb cB hE
 have c0 := cellb c0 hE
 have c1 := cellb c1 hE
 have hblk := hblk.carry hE
 have hbz2 := bthen hcz1 hE
 go_simp
 refine hK _ _ (fun _ => Below.refl _ _) ?_
 clear hK K hE
 try simp only [Act.put, zS]
 refine wpAnyE_done (by kernel_rfl) (fun wy3 hE => ?_) _
 have hbz3 := bthen hbz2 hE
 have cB := cellb cB hE
 have c0 := cellb c0 hE
 have c1 := cellb c1 hE
 have hblk := hblk.carry hE
 clear hE
 have hB := hbz3
 obtain ⟨W9, hW9⟩ : ∃ v, v = wy3 := ⟨_, rfl⟩
 rw [← hW9] at hB cB c0 c1 hblk ⊢
 clear hW9
 have fB := Blk.frozen hblk 0
 go_wp2
 go_ret
 have hbase : Below base w W9 := hB.mono (by omega)
 refine ⟨rfl, hbase.setCell hb0 _, ?_⟩
 exact BlkI.set hblk 0 _
set_option maxRecDepth 100000 in
set_option maxHeartbeats 1000000 in
theorem CheckOutages1_any (i : Int) (x y z last : Int) (B base : Nat) (w : World) (hb0 : base ≤ B) (hblk : BlkI w B 3 [last]) :
 Calls Tryz.prog 208 #[.int .i64 i, .agg #[.int .i64 x, .int .i64 y, .int .i64 z], .pointer (some ⟨B, 0, none⟩)] w fun r w' => r = .returned (.int .i64 (firstE [withinE x 0 100000, withinE y 0 100, withinE z 0 1000000, whenE (decide (x ≤ last)) 11])) ∧ Below base w w' ∧ BlkI w' B 3 [x] := by
 have T0 := Lib.hid (fun W => within_any x 0 100000 W)
 have T1 := Lib.hid (fun W => within_any y 0 100 W)
 have T2 := Lib.hid (fun W => within_any z 0 1000000 W)
 have T3 := Lib.hid (fun W => when_any (decide (x ≤ last)) 11 W)
 obtain ⟨e0, he0⟩ : ∃ e, e = withinE x 0 100000 := ⟨_, rfl⟩
 obtain ⟨e1, he1⟩ : ∃ e, e = withinE y 0 100 := ⟨_, rfl⟩
 obtain ⟨e2, he2⟩ : ∃ e, e = withinE z 0 1000000 := ⟨_, rfl⟩
 obtain ⟨e3, he3⟩ : ∃ e, e = whenE (decide (x ≤ last)) 11 := ⟨_, rfl⟩
 rw [← he0] at T0
 rw [← he1] at T1
 rw [← he2] at T2
 rw [← he3] at T3
 rw [← he0, ← he1, ← he2, ← he3]
 clear he0 he1 he2 he3
 have TF := Lib.hid (fun (u : Value) (W : World) (h : Ints W u [e0, e1, e2, e3]) => first_any u _ W (by simp [maxLen]) h)
 have hlt := Blk.lt hblk
 go_enter Tryz.func208, Tryz.ntmps208
 go_upto_region 1 with fail
 obtain ⟨W1, hW1⟩ : ∃ v, v = World.alloc w (Obj.cells #[.int .i64 x, .int .i64 y, .int .i64 z] 197) := ⟨_, rfl⟩
 have kW1 : Below w.heap.size w W1 := by rw [hW1]; exact below_new _ _
 have iW1 : Blk W1 (w.heap.size) 197 [.int .i64 x, .int .i64 y, .int .i64 z] := by rw [hW1]; exact Blk.new _ _ _
 have sW1 : W1.heap.size = w.heap.size + 1 := by rw [hW1]; simp
 rw [← hW1]
 clear hW1
 have c0 := iW1.cell (j := 0) (v := .int .i64 x) rfl
 have c1 := iW1.cell (j := 1) (v := .int .i64 y) rfl
 have c2 := iW1.cell (j := 2) (v := .int .i64 z) rfl
 have hB := kW1
 replace hblk := Blk.carry hblk kW1
 have cB := BlkI.cell hblk (j := 0) (by simp)
 simp only [List.getElem?_cons_zero, Option.getD_some] at cB
 clear iW1 sW1 kW1
 refine wp_region_E 16 (by kernel_rfl) ?_
 obtain ⟨wz, hwz⟩ : ∃ v, v = W1.drew := ⟨_, rfl⟩
 rw [← hwz]
 have hlz : Below W1.heap.size W1 wz := by rw [hwz]; exact (Below.refl _ _).drew
 have hbz := bthen hB hlz
 have cB := cellb cB hlz
 have c0 := cellb c0 hlz
 have c1 := cellb c1 hlz
 have c2 := cellb c2 hlz
 have hblk := hblk.carry hlz
 clear hwz hlz
 refine zT 0 { dst := some 7, op := Op.fieldAddr 197 (Operand.tmp 4) 0, type := 0, pos := "plan.go:52", after := #[], guard := none } (v := ?_) rfl (Or.inl ⟨by rfl, ?_⟩) ?_
 rotate_left
 ·(intro w hE; have cB := cellb cB hE; have c0 := cellb c0 hE; have c1 := cellb c1 hE; have c2 := cellb c2 hE; (try dsimp only); go_simp); (try with_reducible rfl)
 try simp only [Act.put, zS]
 refine zT 1 { dst := some 8, op := Op.load 3 (Operand.tmp 7), type := 3, pos := "plan.go:52", after := #[{ on := 0, ground := Ground.data }], guard := none } (v := ?_) rfl (Or.inl ⟨by rfl, ?_⟩) ?_
 rotate_left
 ·(intro w hE; have cB := cellb cB hE; have c0 := cellb c0 hE; have c1 := cellb c1 hE; have c2 := cellb c2 hE; (try dsimp only); go_simp); (try with_reducible rfl)
 try simp only [Act.put, zS]
 refine zT 3 { dst := some 10, op := Op.fieldAddr 197 (Operand.tmp 4) 1, type := 0, pos := "plan.go:52", after := #[], guard := none } (v := ?_) rfl (Or.inl ⟨by rfl, ?_⟩) ?_
 rotate_left
 ·(intro w hE; have cB := cellb cB hE; have c0 := cellb c0 hE; have c1 := cellb c1 hE; have c2 := cellb c2 hE; (try dsimp only); go_simp); (try with_reducible rfl)
 try simp only [Act.put, zS]
 refine zT 4 { dst := some 11, op := Op.load 3 (Operand.tmp 10), type := 3, pos := "plan.go:52", after := #[{ on := 3, ground := Ground.data }], guard := none } (v := ?_) rfl (Or.inl ⟨by rfl, ?_⟩) ?_
 rotate_left
 ·(intro w hE; have cB := cellb cB hE; have c0 := cellb c0 hE; have c1 := cellb c1 hE; have c2 := cellb c2 hE; (try dsimp only); go_simp); (try with_reducible rfl)
 try simp only [Act.put, zS]
 refine zT 6 { dst := some 13, op := Op.fieldAddr 197 (Operand.tmp 4) 2, type := 0, pos := "plan.go:52", after := #[], guard := none } (v := ?_) rfl (Or.inl ⟨by rfl, ?_⟩) ?_
 rotate_left
 ·(intro w hE; have cB := cellb cB hE; have c0 := cellb c0 hE; have c1 := cellb c1 hE; have c2 := cellb c2 hE; (try dsimp only); go_simp); (try with_reducible rfl)
 try simp only [Act.put, zS]
 refine zT 7 { dst := some 14, op := Op.load 3 (Operand.tmp 13), type := 3, pos := "plan.go:52", after := #[{ on := 6, ground := Ground.data }], guard := none } (v := ?_) rfl (Or.inl ⟨by rfl, ?_⟩) ?_
 rotate_left
 ·(intro w hE; have cB := cellb cB hE; have c0 := cellb c0 hE; have c1 := cellb c1 hE; have c2 := cellb c2 hE; (try dsimp only); go_simp); (try with_reducible rfl)
 try simp only [Act.put, zS]
 refine zT 9 { dst := some 16, op := Op.fieldAddr 197 (Operand.tmp 4) 0, type := 0, pos := "plan.go:52", after := #[], guard := none } (v := ?_) rfl (Or.inl ⟨by rfl, ?_⟩) ?_
 rotate_left
 ·(intro w hE; have cB := cellb cB hE; have c0 := cellb c0 hE; have c1 := cellb c1 hE; have c2 := cellb c2 hE; (try dsimp only); go_simp); (try with_reducible rfl)
 try simp only [Act.put, zS]
 refine zT 10 { dst := some 17, op := Op.load 3 (Operand.tmp 16), type := 3, pos := "plan.go:52", after := #[{ on := 9, ground := Ground.data }], guard := none } (v := ?_) rfl (Or.inl ⟨by rfl, ?_⟩) ?_
 rotate_left
 ·(intro w hE; have cB := cellb cB hE; have c0 := cellb c0 hE; have c1 := cellb c1 hE; have c2 := cellb c2 hE; (try dsimp only); go_simp); (try with_reducible rfl)
 try simp only [Act.put, zS]
 refine zT 11 { dst := some 18, op := Op.load 3 (Operand.tmp 2), type := 3, pos := "plan.go:52", after := #[], guard := none } (v := ?_) rfl (Or.inl ⟨by rfl, ?_⟩) ?_
 rotate_left
 ·(intro w hE; have cB := cellb cB hE; have c0 := cellb c0 hE; have c1 := cellb c1 hE; have c2 := cellb c2 hE; (try dsimp only); go_simp); (try with_reducible rfl)
 try simp only [Act.put, zS]
 refine zT 12 { dst := some 19, op := Op.binOp BinOp.leq 3 (Operand.tmp 17) (Operand.tmp 18) 3, type := 4, pos := "plan.go:52", after := #[{ on := 10, ground := Ground.data }, { on := 11, ground := Ground.data }], guard := none } (v := ?_) rfl (Or.inl ⟨by rfl, ?_⟩) ?_
 rotate_left
 ·(intro w hE; have cB := cellb cB hE; have c0 := cellb c0 hE; have c1 := cellb c1 hE; have c2 := cellb c2 hE; (try dsimp only); go_simp); (try with_reducible rfl)
 try simp only [Act.put, zS]
 refine zC 2 { dst := some 9, op := Op.call { callee := Callee.value (Operand.func 74), args := #[Operand.tmp 8, Operand.const (Value.int IntKind.i64 0), Operand.const (Value.int IntKind.i64 100000)], argTypes := #[3, 3, 3] }, type := 28, pos := "plan.go:52", after := #[{ on := 1, ground := Ground.data }], guard := none } (fun w hE => ofPure (T0.out w)) rfl (by rfl) (fun w hE => by (try dsimp only); go_simp) ?_
 try simp only [Act.put, zS]
 refine zC 5 { dst := some 12, op := Op.call { callee := Callee.value (Operand.func 74), args := #[Operand.tmp 11, Operand.const (Value.int IntKind.i64 0), Operand.const (Value.int IntKind.i64 100)], argTypes := #[3, 3, 3] }, type := 28, pos := "plan.go:52", after := #[{ on := 4, ground := Ground.data }, { on := 2, ground := Ground.chain }], guard := none } (fun w hE => ofPure (T1.out w)) rfl (by rfl) (fun w hE => by (try dsimp only); go_simp) ?_
 try simp only [Act.put, zS]
 refine zC 8 { dst := some 15, op := Op.call { callee := Callee.value (Operand.func 74), args := #[Operand.tmp 14, Operand.const (Value.int IntKind.i64 0), Operand.const (Value.int IntKind.i64 1000000)], argTypes := #[3, 3, 3] }, type := 28, pos := "plan.go:52", after := #[{ on := 7, ground := Ground.data }, { on := 5, ground := Ground.chain }], guard := none } (fun w hE => ofPure (T2.out w)) rfl (by rfl) (fun w hE => by (try dsimp only); go_simp) ?_
 try simp only [Act.put, zS]
 refine zC 13 { dst := some 20, op := Op.call { callee := Callee.value (Operand.func 97), args := #[Operand.tmp 19, Operand.const (Value.int IntKind.i64 11)], argTypes := #[4, 28] }, type := 28, pos := "plan.go:52", after := #[{ on := 12, ground := Ground.data }, { on := 8, ground := Ground.chain }], guard := none } (fun w hE => ofPure (T3.out w)) rfl (by rfl) (fun w hE => by (try dsimp only); go_simp) ?_
 try simp only [Act.put, zS]
 refine wpAnyE_one (i := 14) (o := { dst := some 21, op := Op.buildSlice 175 4 #[(0, Operand.tmp 9), (1, Operand.tmp 12), (2, Operand.tmp 15), (3, Operand.tmp 20)], type := 175, pos := "plan.go:52", after := #[{ on := 2, ground := Ground.data }, { on := 5, ground := Ground.data }, { on := 8, ground := Ground.data }, { on := 13, ground := Ground.data }], guard := none }) (by kernel_rfl) rfl (fun wy1 hE K hK => ?_)
 have cB := cellb cB hE
 have c0 := cellb c0 hE
 have c1 := cellb c1 hE
 have c2 := cellb c2 hE
 have hblk := hblk.carry hE
 have hbz1 := bthen hbz hE
 clear hE
 go_simp
 obtain ⟨wx1, hwz⟩ : ∃ v, v = wy1.alloc (Obj.cells #[.int .i64 e0, .int .i64 e1, .int .i64 e2, .int .i64 e3] 28) := ⟨_, rfl⟩
 rw [← hwz]
 have hl : Below wy1.heap.size wy1 wx1 := by rw [hwz]; exact below_new _ _
 have hcz1 := bthen hbz1 hl
 have iN : BlkI wx1 wy1.heap.size 28 [e0, e1, e2, e3] := by rw [hwz]; exact Blk.new _ _ _
 generalize wy1.heap.size = G at iN ⊢
 have cB := cellb cB hl
 have c0 := cellb c0 hl
 have c1 := cellb c1 hl
 have c2 := cellb c2 hl
 have hblk := hblk.carry hl
 clear hwz
 refine hK _ _ (fun _ => hl) ?_
 clear hK K hl
 try simp only [Act.put, zS]
 refine zC 15 { dst := some 22, op := Op.call { callee := Callee.value (Operand.func 71), args := #[Operand.tmp 21], argTypes := #[175] }, type := 28, pos := "plan.go:52", after := #[{ on := 14, ground := Ground.data }, { on := 13, ground := Ground.chain }], guard := none } (fun w hE => ofPure (TF.out _ w ((BlkI.ints iN rfl).carry hE))) rfl (by rfl) (fun w hE => by (try dsimp only); go_simp) ?_
 try simp only [Act.put, zS]
 refine wpAnyE_one (i := 16) (o := { dst := some 6, op := Op.assign (Operand.tmp 22), type := 28, pos := "plan.go:52", after := #[{ on := 15, ground := Ground.data }, { on := 15, ground := Ground.chain }, { on := 0, ground := Ground.phase }, { on := 1, ground := Ground.phase }, { on := 2, ground := Ground.phase }, { on := 3, ground := Ground.phase }, { on := 4, ground := Ground.phase }, { on := 5, ground := Ground.phase }, { on := 6, ground := Ground.phase }, { on := 7, ground := Ground.phase }, { on := 8, ground := Ground.phase }, { on := 9, ground := Ground.phase }, { on := 10, ground := Ground.phase }, { on := 11, ground := Ground.phase }, { on := 12, ground := Ground.phase }, { on := 13, ground := Ground.phase }, { on := 14, ground := Ground.phase }, { on := 15, ground := Ground.phase }], guard := none }) (by kernel_rfl) rfl (fun wy2 hE K hK => ?_)
 have cB := cellb cB hE
 have c0 := cellb c0 hE
 have c1 := cellb c1 hE
 have c2 := cellb c2 hE
 have hblk := hblk.carry hE
 have hbz2 := bthen hcz1 hE
 go_simp
 refine hK _ _ (fun _ => Below.refl _ _) ?_
 clear hK K hE
 try simp only [Act.put, zS]
 refine wpAnyE_done (by kernel_rfl) (fun wy3 hE => ?_) _
 have hbz3 := bthen hbz2 hE
 have cB := cellb cB hE
 have c0 := cellb c0 hE
 have c1 := cellb c1 hE
 have c2 := cellb c2 hE
 have hblk := hblk.carry hE
 clear hE
 have hB := hbz3
 obtain ⟨W9, hW9⟩ : ∃ v, v = wy3 := ⟨_, rfl⟩
 rw [← hW9] at hB cB c0 c1 c2 hblk ⊢
 clear hW9
 have fB := Blk.frozen hblk 0
 go_wp2
 go_ret
 have hbase : Below base w W9 := hB.mono (by omega)
 refine ⟨rfl, hbase.setCell hb0 _, ?_⟩
 exact BlkI.set hblk 0 _
theorem first2 (a b : Int) (T : TypeId) (w : World) :
 Calls Tryz.prog 71 #[.slice (some ⟨w.heap.size, 0, none⟩) 2 2] (w.alloc (.cells #[.int .i64 a, .int .i64 b] T)) fun r w' => r = .returned (.int .i64 (firstE [a, b])) ∧ w.alloc (.cells #[.int .i64 a, .int .i64 b] T) = w' :=
 first_any _ [a, b] _ (by simp [maxLen]) (Ints.lit w T [a, b] 2 rfl)
theorem first3 (a b c : Int) (T : TypeId) (w : World) :
 Calls Tryz.prog 71 #[.slice (some ⟨w.heap.size, 0, none⟩) 3 3] (w.alloc (.cells #[.int .i64 a, .int .i64 b, .int .i64 c] T)) fun r w' => r = .returned (.int .i64 (firstE [a, b, c])) ∧ w.alloc (.cells #[.int .i64 a, .int .i64 b, .int .i64 c] T) = w' :=
 first_any _ [a, b, c] _ (by simp [maxLen]) (Ints.lit w T [a, b, c] 3 rfl)
set_option maxHeartbeats 1000000 in
theorem Wear1_any (i n : Int) (w : World) :
 Calls Tryz.prog 103 #[.int .i64 i, .int .i64 n] w fun r w' => r = .returned (.int .i64 (withinE n 0 1024)) ∧ w = w' := by
 go_enter Tryz.func103, Tryz.ntmps103
 go_wp2_with fail
 refine (within_any _ _ _ _).mono ?_
 rintro e w' ⟨rfl, rfl⟩
 go_wp2
 go_ret
 exact ⟨rfl, rfl⟩
set_option maxHeartbeats 1000000 in
theorem CheckPrices1_any (i n : Int) (w : World) :
 Calls Tryz.prog 133 #[.int .i64 i, .int .i64 n] w fun r w' => r = .returned (.int .i64 (withinE n 0 1000000)) ∧ w = w' := by
 go_enter Tryz.func133, Tryz.ntmps133
 go_wp2_with fail
 refine (within_any _ _ _ _).mono ?_
 rintro e w' ⟨rfl, rfl⟩
 go_wp2
 go_ret
 exact ⟨rfl, rfl⟩
theorem Tryz.enterCT1 (args : Array Value) (w : World) : Sem.run Tryz.prog (callFunc 159 args) w = .ok (.enter 159 args) w :=
 MuLone.run_callFunc_enter Tryz.func159 (by kernel_rfl) rfl args w
theorem Tryz.enterCO1 (args : Array Value) (w : World) : Sem.run Tryz.prog (callFunc 208 args) w = .ok (.enter 208 args) w :=
 MuLone.run_callFunc_enter Tryz.func208 (by kernel_rfl) rfl args w
theorem Tryz.enterMi1 (args : Array Value) (w : World) : Sem.run Tryz.prog (callFunc 99 args) w = .ok (.enter 99 args) w :=
 MuLone.run_callFunc_enter Tryz.func99 (by kernel_rfl) rfl args w
theorem Tryz.enterWe1 (args : Array Value) (w : World) : Sem.run Tryz.prog (callFunc 103 args) w = .ok (.enter 103 args) w :=
 MuLone.run_callFunc_enter Tryz.func103 (by kernel_rfl) rfl args w
theorem Tryz.enterCP1 (args : Array Value) (w : World) : Sem.run Tryz.prog (callFunc 133 args) w = .ok (.enter 133 args) w :=
 MuLone.run_callFunc_enter Tryz.func133 (by kernel_rfl) rfl args w
theorem Tryz.enterSp1 (args : Array Value) (w : World) : Sem.run Tryz.prog (callFunc 138 args) w = .ok (.enter 138 args) w :=
 MuLone.run_callFunc_enter Tryz.func138 (by kernel_rfl) rfl args w
/-- the tick ahead of number k, -1 at the first. -/
def prevT (l : List P2) (k : Nat) : Int := if k = 0 then -1 else (l[k - 1]?.getD (0, 0)).1
def trainG (l : List P2) (k : Nat) (x : P2) : Int := firstE [withinE x.1 0 100000, withinE x.2 0 4095, whenE (decide (x.1 ≤ prevT l k)) 11]
/-- the first error of a train. -/
def trainE (l : List P2) : Int := if 256 < l.length then 5 else eachE (trainG l) l
def prevO (l : List I3) (k : Nat) : Int := if k = 0 then -1 else (l[k - 1]?.getD (0, 0, 0)).1
def outG (l : List I3) (k : Nat) (x : I3) : Int := firstE [withinE x.1 0 100000, withinE x.2.1 0 100, withinE x.2.2 0 1000000, whenE (decide (x.1 ≤ prevO l k)) 11]
def outE (l : List I3) : Int := if 6 < l.length then 5 else eachE (outG l) l
theorem prevT_succ {l : List P2} {k : Nat} {x : P2} (h : l[k]? = some x) : prevT l (k + 1) = x.1 := by
 simp [prevT, h]
theorem prevO_succ {l : List I3} {k : Nat} {x : I3} (h : l[k]? = some x) : prevO l (k + 1) = x.1 := by
 simp [prevO, h]
set_option maxRecDepth 100000 in
set_option maxHeartbeats 1000000 in
theorem CheckTrain_any (v : Value) (l : List P2) (w : World) (hl : l.length ≤ 1000000000) (hv : Rw 2 pV w v l) :
 Calls Tryz.prog 104 #[v] w fun r w' => r = .returned (.int .i64 (trainE l)) ∧ Below w.heap.size w w' := by
 have hv0 := hv
 obtain ⟨a, cp, rfl, hcp, -⟩ := hv0
 by_cases h9 : 256 < l.length
 ·have b9 : decide ((256 : Int) < (l.length : Int)) = true := by simp; omega
  have he : trainE l = 5 := by rw [trainE, if_pos h9]
  rw [he]
  clear he hv
  go_enter Tryz.func104, Tryz.ntmps104
  go_wp2
  go_ret
  exact ⟨rfl, Below.refl _ _⟩
 ·have b9 : decide ((256 : Int) < (l.length : Int)) = false := by simp; omega
  have he : trainE l = eachE (trainG l) l := by rw [trainE, if_neg h9]
  rw [he]
  have TE := Lib.hid (fun (W : World) (B : Nat) (hW : Below w.heap.size w W) (hB : w.heap.size ≤ B) (hb : BlkI W B 3 [-1]) => eachP_any 159 #[.pointer (some ⟨B, 0, none⟩)] Tryz.enterCT1 (trainG l) (fun k W => BlkI W B 3 [prevT l k]) w.heap.size (.slice a l.length cp) l W hl hW.size (fun w1 h1 => hv.carry (hW.trans h1)) hb (fun k w1 w2 h1 h2 => Blk.carry h1 h2) (fun k x hx w1 h1 h2 => (CheckTrain1_any k x.1 x.2 (prevT l k) B w.heap.size w1 hB h2).mono (fun r w2 ⟨hr, hb2, hk2⟩ => ⟨hr, hb2, fun _ => by rw [prevT_succ hx]; exact hk2⟩)))
  clear he h9
  generalize eachE (trainG l) l = E at TE ⊢
  go_enter Tryz.func104, Tryz.ntmps104
  go_upto_region 4 with fail
  obtain ⟨W1, hW1⟩ : ∃ v, v = World.alloc w (Obj.cells #[.int .i64 (-1)] 3) := ⟨_, rfl⟩
  have kW1 : Below w.heap.size w W1 := by rw [hW1]; exact below_new _ _
  have iW1 : Blk W1 (w.heap.size) 3 [.int .i64 (-1)] := by rw [hW1]; exact Blk.new _ _ _
  have sW1 : W1.heap.size = w.heap.size + 1 := by rw [hW1]; simp
  rw [← hW1]
  clear hW1
  have i1 : BlkI W1 w.heap.size 3 [-1] := iW1
  clear iW1 sW1
  go_wp2_with fail
  refine (TE.out W1 w.heap.size kW1 (Nat.le_refl _) i1).mono ?_
  rintro e w2 ⟨rfl, hb2⟩
  go_wp2
  go_ret
  exact ⟨rfl, kW1.trans hb2⟩
set_option maxRecDepth 100000 in
set_option maxHeartbeats 1000000 in
theorem CheckOutages_any (v : Value) (l : List I3) (w : World) (hl : l.length ≤ 1000000000) (hv : Rw 3 iV w v l) :
 Calls Tryz.prog 165 #[v] w fun r w' => r = .returned (.int .i64 (outE l)) ∧ Below w.heap.size w w' := by
 have hv0 := hv
 obtain ⟨a, cp, rfl, hcp, -⟩ := hv0
 by_cases h9 : 6 < l.length
 ·have b9 : decide ((6 : Int) < (l.length : Int)) = true := by simp; omega
  have he : outE l = 5 := by rw [outE, if_pos h9]
  rw [he]
  clear he hv
  go_enter Tryz.func165, Tryz.ntmps165
  go_wp2
  go_ret
  exact ⟨rfl, Below.refl _ _⟩
 ·have b9 : decide ((6 : Int) < (l.length : Int)) = false := by simp; omega
  have he : outE l = eachE (outG l) l := by rw [outE, if_neg h9]
  rw [he]
  have TE := Lib.hid (fun (W : World) (B : Nat) (hW : Below w.heap.size w W) (hB : w.heap.size ≤ B) (hb : BlkI W B 3 [-1]) => eachO_any 208 #[.pointer (some ⟨B, 0, none⟩)] Tryz.enterCO1 (outG l) (fun k W => BlkI W B 3 [prevO l k]) w.heap.size (.slice a l.length cp) l W hl hW.size (fun w1 h1 => hv.carry (hW.trans h1)) hb (fun k w1 w2 h1 h2 => Blk.carry h1 h2) (fun k x hx w1 h1 h2 => (CheckOutages1_any k x.1 x.2.1 x.2.2 (prevO l k) B w.heap.size w1 hB h2).mono (fun r w2 ⟨hr, hb2, hk2⟩ => ⟨hr, hb2, fun _ => by rw [prevO_succ hx]; exact hk2⟩)))
  clear he h9
  generalize eachE (outG l) l = E at TE ⊢
  go_enter Tryz.func165, Tryz.ntmps165
  go_upto_region 4 with fail
  obtain ⟨W1, hW1⟩ : ∃ v, v = World.alloc w (Obj.cells #[.int .i64 (-1)] 3) := ⟨_, rfl⟩
  have kW1 : Below w.heap.size w W1 := by rw [hW1]; exact below_new _ _
  have iW1 : Blk W1 (w.heap.size) 3 [.int .i64 (-1)] := by rw [hW1]; exact Blk.new _ _ _
  have sW1 : W1.heap.size = w.heap.size + 1 := by rw [hW1]; simp
  rw [← hW1]
  clear hW1
  have i1 : BlkI W1 w.heap.size 3 [-1] := iW1
  clear iW1 sW1
  go_wp2_with fail
  refine (TE.out W1 w.heap.size kW1 (Nat.le_refl _) i1).mono ?_
  rintro e w2 ⟨rfl, hb2⟩
  go_wp2
  go_ret
  exact ⟨rfl, kW1.trans hb2⟩
end Go.Proofs.YtgdkomgfalkihaaGreatDoor

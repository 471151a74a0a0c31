/- The package harmonic: strength, sign, turned. -/
import Derived.Test.YtpkaoechbmbolaaGreatDoorHarA
namespace Go.Proofs.YtpkaoechbmbolaaGreatDoor
set_option linter.unusedSimpArgs false
set_option linter.unusedVariables false
open Go.RowKit

theorem fieldE1 (a b : Int) (w : World) : Sem.run Tryz.prog (Instr.field 66 (.agg #[.int .i64 a, .int .i64 b]) 1) w = .ok (.int .i64 b) w := by kernel_rfl
/-- the strength. -/
def st0 (x0 x1 x2 x3 : Int) : Int := wrap64 (eiA x0 x1 (wrap64 (x0 - x1)) (wrap64 (-x1)) + eiA x2 x3 (wrap64 (x2 - x3)) (wrap64 (-x3)))
def st1 (x0 x1 x2 x3 : Int) : Int := wrap64 (-(eiB x2 x3 (wrap64 (x0 - x1)) (wrap64 (-x1))))

set_option maxRecDepth 100000 in
set_option maxHeartbeats 2000000 in
theorem strengthC_any (x0 x1 x2 x3 : Int) (w : World) :
    Calls Tryz.prog 55 #[.agg #[.int .i64 x0, .int .i64 x1, .int .i64 x2, .int .i64 x3]] w fun e w' => e = .returned (.agg #[.int .i64 (st0 x0 x1 x2 x3), .int .i64 (st1 x0 x1 x2 x3)]) ∧ Below w.heap.size w w' := by
  obtain ⟨n0, hn0⟩ : ∃ y, y = st0 x0 x1 x2 x3 := ⟨_, rfl⟩
  obtain ⟨n1, hn1⟩ : ∃ y, y = st1 x0 x1 x2 x3 := ⟨_, rfl⟩
  obtain ⟨N1, hN1⟩ : ∃ y, y = wrap64 (eiB x0 x1 (wrap64 (x0 - x1)) (wrap64 (-x1)) + eiB x2 x3 (wrap64 (x2 - x3)) (wrap64 (-x3))) := ⟨_, rfl⟩
  have TP := Lib.hid (fun W => plusE_any (eiA x0 x1 (wrap64 (x0 - x1)) (wrap64 (-x1))) (eiB x0 x1 (wrap64 (x0 - x1)) (wrap64 (-x1))) (eiA x2 x3 (wrap64 (x2 - x3)) (wrap64 (-x3))) (eiB x2 x3 (wrap64 (x2 - x3)) (wrap64 (-x3))) W)
  rw [show wrap64 (eiA x0 x1 (wrap64 (x0 - x1)) (wrap64 (-x1)) + eiA x2 x3 (wrap64 (x2 - x3)) (wrap64 (-x3))) = n0 from hn0.symm, ← hN1] at TP
  obtain ⟨M0, hM0⟩ : ∃ y, y = eiA x2 x3 (wrap64 (x0 - x1)) (wrap64 (-x1)) := ⟨_, rfl⟩
  obtain ⟨M1, hM1⟩ : ∃ y, y = eiB x2 x3 (wrap64 (x0 - x1)) (wrap64 (-x1)) := ⟨_, rfl⟩
  have TM := Lib.hid (fun W => timesE' x2 x3 (wrap64 (x0 - x1)) (wrap64 (-x1)) W)
  rw [← hM0, ← hM1] at TM
  have hn1' : wrap64 (-M1) = n1 := by rw [hM1, hn1]; rfl
  have HN1' := Lib.hid hn1'
  rw [← hn0, ← hn1]
  clear hn0 hn1 hN1 hM0 hM1 hn1'
  go_enter Tryz.func55, Tryz.ntmps55
  go_upto_region 1 with fail
  obtain ⟨W1, hW1⟩ : ∃ v, v = World.alloc w (Obj.cells #[.int .i64 x0, .int .i64 x1, .int .i64 x2, .int .i64 x3] 68) := ⟨_, rfl⟩
  have kW1 : Below w.heap.size w W1 := by rw [hW1]; exact below_new _ _
  have iW1 : Blk W1 (w.heap.size) 68 [.int .i64 x0, .int .i64 x1, .int .i64 x2, .int .i64 x3] := by rw [hW1]; exact Blk.new _ _ _
  have sW1 : W1.heap.size = w.heap.size + 1 := by rw [hW1]; simp
  rw [← hW1]
  clear hW1
  obtain ⟨W2, hW2⟩ : ∃ v, v = World.alloc W1 (Obj.cells #[.int .i64 0, .int .i64 0] 79) := ⟨_, rfl⟩
  have kW2 : Below W1.heap.size W1 W2 := by rw [hW2]; exact below_new _ _
  have iW2 : Blk W2 (w.heap.size + 1) 79 [.int .i64 0, .int .i64 0] := by rw [hW2, ← sW1]; exact Blk.new _ _ _
  have sW2 : W2.heap.size = w.heap.size + 1 + 1 := by rw [hW2]; simp [sW1]
  rw [← hW2]
  clear hW2
  clear sW1 sW2
  have i1 := iW1.carry kW2
  have i2 := iW2
  have hB := bthen kW1 kW2
  clear iW1 kW1 iW2 kW2
  have a0 := i1.cell (j := 0) (v := .int .i64 x0) rfl
  have a1 := i1.cell (j := 1) (v := .int .i64 x1) rfl
  have a2 := i1.cell (j := 2) (v := .int .i64 x2) rfl
  have a3 := i1.cell (j := 3) (v := .int .i64 x3) rfl
  refine wp_region_E 14 (by kernel_rfl) ?_
  obtain ⟨wz, hwz⟩ : ∃ v, v = W2.drew := ⟨_, rfl⟩
  rw [← hwz]
  have hlz : Below W2.heap.size W2 wz := by rw [hwz]; exact (Below.refl _ _).drew
  have hbz := bthen hB hlz
  have a0 := cellb a0 hlz
  have a1 := cellb a1 hlz
  have a2 := cellb a2 hlz
  have a3 := cellb a3 hlz
  have i1 := i1.carry hlz
  have i2 := i2.carry hlz
  clear hwz hlz
  refine wpAnyE_take (i := 0) (oi := { dst := some 4, op := Op.fieldAddr 68 (Operand.tmp 1) 0, type := 0, pos := "harmonic.go:114", after := #[], guard := none }) (v := ?_) rfl (by kernel_rfl) (by kernel_rfl) (by kernel_rfl) (by kernel_rfl) (fun _ _ _ h => h) (Or.inl ⟨by rfl, ?_⟩) ?_
  rotate_left
  · (intro w hE; have a0 := cellb a0 hE; have a1 := cellb a1 hE; have a2 := cellb a2 hE; have a3 := cellb a3 hE; (try dsimp only); go_simp); (try with_reducible rfl)
  try simp only [Act.put, List.setIfInBounds_toArray, List.set_cons_zero, List.set_cons_succ]
  refine wpAnyE_take (i := 1) (oi := { dst := some 5, op := Op.load 66 (Operand.tmp 4), type := 66, pos := "harmonic.go:114", after := #[{ on := 0, ground := Ground.data }], guard := none }) (v := ?_) rfl (by kernel_rfl) (by kernel_rfl) (by kernel_rfl) (by kernel_rfl) (fun _ _ _ h => h) (Or.inl ⟨by rfl, ?_⟩) ?_
  rotate_left
  · (intro w hE; have a0 := cellb a0 hE; have a1 := cellb a1 hE; have a2 := cellb a2 hE; have a3 := cellb a3 hE; (try dsimp only); go_simp); (try with_reducible rfl)
  try simp only [Act.put, List.setIfInBounds_toArray, List.set_cons_zero, List.set_cons_succ]
  refine wpAnyE_take (i := 2) (oi := { dst := some 6, op := Op.fieldAddr 68 (Operand.tmp 1) 0, type := 0, pos := "harmonic.go:114", after := #[], guard := none }) (v := ?_) rfl (by kernel_rfl) (by kernel_rfl) (by kernel_rfl) (by kernel_rfl) (fun _ _ _ h => h) (Or.inl ⟨by rfl, ?_⟩) ?_
  rotate_left
  · (intro w hE; have a0 := cellb a0 hE; have a1 := cellb a1 hE; have a2 := cellb a2 hE; have a3 := cellb a3 hE; (try dsimp only); go_simp); (try with_reducible rfl)
  try simp only [Act.put, List.setIfInBounds_toArray, List.set_cons_zero, List.set_cons_succ]
  refine wpAnyE_take (i := 3) (oi := { dst := some 7, op := Op.load 66 (Operand.tmp 6), type := 66, pos := "harmonic.go:114", after := #[{ on := 2, ground := Ground.data }], guard := none }) (v := ?_) rfl (by kernel_rfl) (by kernel_rfl) (by kernel_rfl) (by kernel_rfl) (fun _ _ _ h => h) (Or.inl ⟨by rfl, ?_⟩) ?_
  rotate_left
  · (intro w hE; have a0 := cellb a0 hE; have a1 := cellb a1 hE; have a2 := cellb a2 hE; have a3 := cellb a3 hE; (try dsimp only); go_simp); (try with_reducible rfl)
  try simp only [Act.put, List.setIfInBounds_toArray, List.set_cons_zero, List.set_cons_succ]
  refine wpAnyE_take (i := 6) (oi := { dst := some 10, op := Op.fieldAddr 68 (Operand.tmp 1) 1, type := 0, pos := "harmonic.go:114", after := #[], guard := none }) (v := ?_) rfl (by kernel_rfl) (by kernel_rfl) (by kernel_rfl) (by kernel_rfl) (fun _ _ _ h => h) (Or.inl ⟨by rfl, ?_⟩) ?_
  rotate_left
  · (intro w hE; have a0 := cellb a0 hE; have a1 := cellb a1 hE; have a2 := cellb a2 hE; have a3 := cellb a3 hE; (try dsimp only); go_simp); (try with_reducible rfl)
  try simp only [Act.put, List.setIfInBounds_toArray, List.set_cons_zero, List.set_cons_succ]
  refine wpAnyE_take (i := 7) (oi := { dst := some 11, op := Op.load 66 (Operand.tmp 10), type := 66, pos := "harmonic.go:114", after := #[{ on := 6, ground := Ground.data }], guard := none }) (v := ?_) rfl (by kernel_rfl) (by kernel_rfl) (by kernel_rfl) (by kernel_rfl) (fun _ _ _ h => h) (Or.inl ⟨by rfl, ?_⟩) ?_
  rotate_left
  · (intro w hE; have a0 := cellb a0 hE; have a1 := cellb a1 hE; have a2 := cellb a2 hE; have a3 := cellb a3 hE; (try dsimp only); go_simp); (try with_reducible rfl)
  try simp only [Act.put, List.setIfInBounds_toArray, List.set_cons_zero, List.set_cons_succ]
  refine wpAnyE_take (i := 8) (oi := { dst := some 12, op := Op.fieldAddr 68 (Operand.tmp 1) 1, type := 0, pos := "harmonic.go:114", after := #[], guard := none }) (v := ?_) rfl (by kernel_rfl) (by kernel_rfl) (by kernel_rfl) (by kernel_rfl) (fun _ _ _ h => h) (Or.inl ⟨by rfl, ?_⟩) ?_
  rotate_left
  · (intro w hE; have a0 := cellb a0 hE; have a1 := cellb a1 hE; have a2 := cellb a2 hE; have a3 := cellb a3 hE; (try dsimp only); go_simp); (try with_reducible rfl)
  try simp only [Act.put, List.setIfInBounds_toArray, List.set_cons_zero, List.set_cons_succ]
  refine wpAnyE_take (i := 9) (oi := { dst := some 13, op := Op.load 66 (Operand.tmp 12), type := 66, pos := "harmonic.go:114", after := #[{ on := 8, ground := Ground.data }], guard := none }) (v := ?_) rfl (by kernel_rfl) (by kernel_rfl) (by kernel_rfl) (by kernel_rfl) (fun _ _ _ h => h) (Or.inl ⟨by rfl, ?_⟩) ?_
  rotate_left
  · (intro w hE; have a0 := cellb a0 hE; have a1 := cellb a1 hE; have a2 := cellb a2 hE; have a3 := cellb a3 hE; (try dsimp only); go_simp); (try with_reducible rfl)
  try simp only [Act.put, List.setIfInBounds_toArray, List.set_cons_zero, List.set_cons_succ]
  refine wpAnyE_call (i := 4) (oi := { dst := some 8, op := Op.call { callee := Callee.value (Operand.func 81), args := #[Operand.tmp 7], argTypes := #[66] }, type := 66, pos := "harmonic.go:114", after := #[{ on := 3, ground := Ground.data }], guard := none }) (fun w hE => barE_any x0 x1 w) rfl (by kernel_rfl) (by kernel_rfl) (by kernel_rfl) (by kernel_rfl) (fun _ _ _ h => h) (by rfl) (fun w hE => by (try dsimp only); go_simp) ?_
  try simp only [Act.put, List.setIfInBounds_toArray, List.set_cons_zero, List.set_cons_succ]
  refine wpAnyE_call (i := 5) (oi := { dst := some 9, op := Op.call { callee := Callee.value (Operand.func 80), args := #[Operand.tmp 5, Operand.tmp 8], argTypes := #[66, 66] }, type := 66, pos := "harmonic.go:114", after := #[{ on := 1, ground := Ground.data }, { on := 4, ground := Ground.data }, { on := 4, ground := Ground.chain }], guard := none }) (fun w hE => timesE' x0 x1 (wrap64 (x0 - x1)) (wrap64 (-x1)) w) rfl (by kernel_rfl) (by kernel_rfl) (by kernel_rfl) (by kernel_rfl) (fun _ _ _ h => h) (by rfl) (fun w hE => by (try dsimp only); go_simp) ?_
  try simp only [Act.put, List.setIfInBounds_toArray, List.set_cons_zero, List.set_cons_succ]
  refine wpAnyE_call (i := 10) (oi := { dst := some 14, op := Op.call { callee := Callee.value (Operand.func 81), args := #[Operand.tmp 13], argTypes := #[66] }, type := 66, pos := "harmonic.go:114", after := #[{ on := 9, ground := Ground.data }, { on := 5, ground := Ground.chain }], guard := none }) (fun w hE => barE_any x2 x3 w) rfl (by kernel_rfl) (by kernel_rfl) (by kernel_rfl) (by kernel_rfl) (fun _ _ _ h => h) (by rfl) (fun w hE => by (try dsimp only); go_simp) ?_
  try simp only [Act.put, List.setIfInBounds_toArray, List.set_cons_zero, List.set_cons_succ]
  refine wpAnyE_call (i := 11) (oi := { dst := some 15, op := Op.call { callee := Callee.value (Operand.func 80), args := #[Operand.tmp 11, Operand.tmp 14], argTypes := #[66, 66] }, type := 66, pos := "harmonic.go:114", after := #[{ on := 7, ground := Ground.data }, { on := 10, ground := Ground.data }, { on := 10, ground := Ground.chain }], guard := none }) (fun w hE => timesE' x2 x3 (wrap64 (x2 - x3)) (wrap64 (-x3)) w) rfl (by kernel_rfl) (by kernel_rfl) (by kernel_rfl) (by kernel_rfl) (fun _ _ _ h => h) (by rfl) (fun w hE => by (try dsimp only); go_simp) ?_
  try simp only [Act.put, List.setIfInBounds_toArray, List.set_cons_zero, List.set_cons_succ]
  refine wpAnyE_call (i := 12) (oi := { dst := some 16, op := Op.call { callee := Callee.value (Operand.func 79), args := #[Operand.tmp 9, Operand.tmp 15], argTypes := #[66, 66] }, type := 66, pos := "harmonic.go:114", after := #[{ on := 5, ground := Ground.data }, { on := 11, ground := Ground.data }, { on := 11, ground := Ground.chain }], guard := none }) (fun w hE => TP.out w) rfl (by kernel_rfl) (by kernel_rfl) (by kernel_rfl) (by kernel_rfl) (fun _ _ _ h => h) (by rfl) (fun w hE => by (try dsimp only); go_simp) ?_
  try simp only [Act.put, List.setIfInBounds_toArray, List.set_cons_zero, List.set_cons_succ]
  refine wpAnyE_one (i := 13) (o := { dst := some 3, op := Op.alloc 66, type := 0, pos := "harmonic.go:114", after := #[], guard := none }) (by kernel_rfl) rfl (fun wy1 hE K hK => ?_)
  have a0 := cellb a0 hE
  have a1 := cellb a1 hE
  have a2 := cellb a2 hE
  have a3 := cellb a3 hE
  have i1 := i1.carry hE
  have i2 := i2.carry hE
  have hbz1 := bthen hbz hE
  clear hE
  go_simp
  obtain ⟨wx1, hwz⟩ : ∃ v, v = wy1.alloc (Obj.cells #[.int .i64 0, .int .i64 0] 66) := ⟨_, rfl⟩
  rw [← hwz]
  have hl : Below wy1.heap.size wy1 wx1 := by rw [hwz]; exact below_new _ _
  have hcz1 := bthen hbz1 hl
  have iN : Blk wx1 wy1.heap.size 66 [.int .i64 0, .int .i64 0] := by rw [hwz]; exact Blk.new _ _ _
  have hGs : w.heap.size ≤ wy1.heap.size := (hbz1).size
  have hG1 := i1.lt
  have hG2 := i2.lt
  generalize wy1.heap.size = G at iN hGs hG1 hG2 ⊢
  have a0 := cellb a0 hl
  have a1 := cellb a1 hl
  have a2 := cellb a2 hl
  have a3 := cellb a3 hl
  have i1 := i1.carry hl
  have i2 := i2.carry hl
  clear hwz
  refine hK _ _ (fun _ => hl) ?_
  clear hK K hl
  try simp only [Act.put, List.setIfInBounds_toArray, List.set_cons_zero, List.set_cons_succ]
  refine wpAnyE_one (i := 14) (o := { dst := none, op := Op.store 66 (Operand.tmp 3) (Operand.tmp 16), type := 0, pos := "harmonic.go:114", after := #[{ on := 13, ground := Ground.data }, { on := 12, ground := Ground.data }, { on := 12, ground := Ground.chain }, { on := 0, ground := Ground.phase }, { on := 1, ground := Ground.phase }, { on := 2, ground := Ground.phase }, { on := 3, ground := Ground.phase }, { on := 4, ground := Ground.phase }, { on := 5, ground := Ground.phase }, { on := 6, ground := Ground.phase }, { on := 7, ground := Ground.phase }, { on := 8, ground := Ground.phase }, { on := 9, ground := Ground.phase }, { on := 10, ground := Ground.phase }, { on := 11, ground := Ground.phase }, { on := 12, ground := Ground.phase }, { on := 13, ground := Ground.phase }], guard := none }) (by kernel_rfl) rfl (fun wy2 hE K hK => ?_)
  have a0 := cellb a0 hE
  have a1 := cellb a1 hE
  have a2 := cellb a2 hE
  have a3 := cellb a3 hE
  have i1 := i1.carry hE
  have i2 := i2.carry hE
  have iN := iN.carry hE
  have hbz2 := bthen hcz1 hE
  clear hE
  have c0 := iN.cell (j := 0) (v := .int .i64 0) rfl
  have c1 := iN.cell (j := 1) (v := .int .i64 0) rfl
  have f0 := iN.frozen 0
  have f1 := iN.frozen 1
  go_simp
  obtain ⟨wx2, hwz⟩ : ∃ v, v = (wy2.setCell ⟨G, 0, none⟩ (.int .i64 n0)).setCell ⟨G, 1, none⟩ (.int .i64 N1) := ⟨_, rfl⟩
  rw [← hwz]
  have hcz2 : Below w.heap.size w wx2 := by rw [hwz]; exact ((hbz2).setCell hGs _).setCell hGs _
  have iN := (iN.set 0 (.int .i64 n0)).set 1 (.int .i64 N1)
  have i1 := (i1.other (B' := G) (j := 0) (by omega) (.int .i64 n0)).other (B' := G) (j := 1) (by omega) (.int .i64 N1)
  have i2 := (i2.other (B' := G) (j := 0) (by omega) (.int .i64 n0)).other (B' := G) (j := 1) (by omega) (.int .i64 N1)
  rw [← hwz] at iN i1 i2
  clear hwz
  refine hK _ _ (fun h => absurd rfl h) ?_
  clear hK K
  try simp only [Act.put, List.setIfInBounds_toArray, List.set_cons_zero, List.set_cons_succ]
  refine wpAnyE_done (by kernel_rfl) (fun wy3 hE => ?_) _
  have hbz3 := bthen hcz2 hE
  have i1 := i1.carry hE
  have i2 := i2.carry hE
  have iN := iN.carry hE
  clear hE
  have hB := hbz3
  obtain ⟨W3, hW3⟩ : ∃ v, v = wy3 := ⟨_, rfl⟩
  rw [← hW3] at hB i1 i2 iN ⊢
  clear hW3
  go_upto_region 2 with fail
  have a0 := i1.cell (j := 0) (v := .int .i64 x0) rfl
  have a1 := i1.cell (j := 1) (v := .int .i64 x1) rfl
  have a2 := i1.cell (j := 2) (v := .int .i64 x2) rfl
  have a3 := i1.cell (j := 3) (v := .int .i64 x3) rfl
  have b0 := iN.cell (j := 0) (v := .int .i64 n0) rfl
  have b1 := iN.cell (j := 1) (v := .int .i64 N1) rfl
  have e1 : IntKind.i64.wrap (-M1) = n1 := by rw [wrapEq]; exact HN1'.out
  have hfd := fieldE1 M0 M1
  refine wp_region_E 11 (by kernel_rfl) ?_
  obtain ⟨wz, hwz⟩ : ∃ v, v = W3.drew := ⟨_, rfl⟩
  rw [← hwz]
  have hlz : Below W3.heap.size W3 wz := by rw [hwz]; exact (Below.refl _ _).drew
  have hbz := bthen hB hlz
  have a0 := cellb a0 hlz
  have a1 := cellb a1 hlz
  have a2 := cellb a2 hlz
  have a3 := cellb a3 hlz
  have b0 := cellb b0 hlz
  have b1 := cellb b1 hlz
  have i2 := i2.carry hlz
  clear hwz hlz
  refine wpAnyE_take (i := 0) (oi := { dst := some 17, op := Op.fieldAddr 66 (Operand.tmp 3) 0, type := 0, pos := "harmonic.go:115", after := #[], guard := none }) (v := ?_) rfl (by kernel_rfl) (by kernel_rfl) (by kernel_rfl) (by kernel_rfl) (fun _ _ _ h => h) (Or.inl ⟨by rfl, ?_⟩) ?_
  rotate_left
  · (intro w hE; have a0 := cellb a0 hE; have a1 := cellb a1 hE; have a2 := cellb a2 hE; have a3 := cellb a3 hE; have b0 := cellb b0 hE; have b1 := cellb b1 hE; (try dsimp only); go_simp); (try with_reducible rfl)
  try simp only [Act.put, List.setIfInBounds_toArray, List.set_cons_zero, List.set_cons_succ]
  refine wpAnyE_take (i := 1) (oi := { dst := some 18, op := Op.load 3 (Operand.tmp 17), type := 3, pos := "harmonic.go:115", after := #[{ on := 0, ground := Ground.data }], guard := none }) (v := ?_) rfl (by kernel_rfl) (by kernel_rfl) (by kernel_rfl) (by kernel_rfl) (fun _ _ _ h => h) (Or.inl ⟨by rfl, ?_⟩) ?_
  rotate_left
  · (intro w hE; have a0 := cellb a0 hE; have a1 := cellb a1 hE; have a2 := cellb a2 hE; have a3 := cellb a3 hE; have b0 := cellb b0 hE; have b1 := cellb b1 hE; (try dsimp only); go_simp); (try with_reducible rfl)
  try simp only [Act.put, List.setIfInBounds_toArray, List.set_cons_zero, List.set_cons_succ]
  refine wpAnyE_take (i := 2) (oi := { dst := some 19, op := Op.fieldAddr 68 (Operand.tmp 1) 1, type := 0, pos := "harmonic.go:115", after := #[], guard := none }) (v := ?_) rfl (by kernel_rfl) (by kernel_rfl) (by kernel_rfl) (by kernel_rfl) (fun _ _ _ h => h) (Or.inl ⟨by rfl, ?_⟩) ?_
  rotate_left
  · (intro w hE; have a0 := cellb a0 hE; have a1 := cellb a1 hE; have a2 := cellb a2 hE; have a3 := cellb a3 hE; have b0 := cellb b0 hE; have b1 := cellb b1 hE; (try dsimp only); go_simp); (try with_reducible rfl)
  try simp only [Act.put, List.setIfInBounds_toArray, List.set_cons_zero, List.set_cons_succ]
  refine wpAnyE_take (i := 3) (oi := { dst := some 20, op := Op.load 66 (Operand.tmp 19), type := 66, pos := "harmonic.go:115", after := #[{ on := 2, ground := Ground.data }], guard := none }) (v := ?_) rfl (by kernel_rfl) (by kernel_rfl) (by kernel_rfl) (by kernel_rfl) (fun _ _ _ h => h) (Or.inl ⟨by rfl, ?_⟩) ?_
  rotate_left
  · (intro w hE; have a0 := cellb a0 hE; have a1 := cellb a1 hE; have a2 := cellb a2 hE; have a3 := cellb a3 hE; have b0 := cellb b0 hE; have b1 := cellb b1 hE; (try dsimp only); go_simp); (try with_reducible rfl)
  try simp only [Act.put, List.setIfInBounds_toArray, List.set_cons_zero, List.set_cons_succ]
  refine wpAnyE_take (i := 4) (oi := { dst := some 21, op := Op.fieldAddr 68 (Operand.tmp 1) 0, type := 0, pos := "harmonic.go:115", after := #[], guard := none }) (v := ?_) rfl (by kernel_rfl) (by kernel_rfl) (by kernel_rfl) (by kernel_rfl) (fun _ _ _ h => h) (Or.inl ⟨by rfl, ?_⟩) ?_
  rotate_left
  · (intro w hE; have a0 := cellb a0 hE; have a1 := cellb a1 hE; have a2 := cellb a2 hE; have a3 := cellb a3 hE; have b0 := cellb b0 hE; have b1 := cellb b1 hE; (try dsimp only); go_simp); (try with_reducible rfl)
  try simp only [Act.put, List.setIfInBounds_toArray, List.set_cons_zero, List.set_cons_succ]
  refine wpAnyE_take (i := 5) (oi := { dst := some 22, op := Op.load 66 (Operand.tmp 21), type := 66, pos := "harmonic.go:115", after := #[{ on := 4, ground := Ground.data }], guard := none }) (v := ?_) rfl (by kernel_rfl) (by kernel_rfl) (by kernel_rfl) (by kernel_rfl) (fun _ _ _ h => h) (Or.inl ⟨by rfl, ?_⟩) ?_
  rotate_left
  · (intro w hE; have a0 := cellb a0 hE; have a1 := cellb a1 hE; have a2 := cellb a2 hE; have a3 := cellb a3 hE; have b0 := cellb b0 hE; have b1 := cellb b1 hE; (try dsimp only); go_simp); (try with_reducible rfl)
  try simp only [Act.put, List.setIfInBounds_toArray, List.set_cons_zero, List.set_cons_succ]
  refine wpAnyE_call (i := 6) (oi := { dst := some 23, op := Op.call { callee := Callee.value (Operand.func 81), args := #[Operand.tmp 22], argTypes := #[66] }, type := 66, pos := "harmonic.go:115", after := #[{ on := 5, ground := Ground.data }], guard := none }) (fun w hE => barE_any x0 x1 w) rfl (by kernel_rfl) (by kernel_rfl) (by kernel_rfl) (by kernel_rfl) (fun _ _ _ h => h) (by rfl) (fun w hE => by (try dsimp only); go_simp) ?_
  try simp only [Act.put, List.setIfInBounds_toArray, List.set_cons_zero, List.set_cons_succ]
  refine wpAnyE_call (i := 7) (oi := { dst := some 24, op := Op.call { callee := Callee.value (Operand.func 80), args := #[Operand.tmp 20, Operand.tmp 23], argTypes := #[66, 66] }, type := 66, pos := "harmonic.go:115", after := #[{ on := 3, ground := Ground.data }, { on := 6, ground := Ground.data }, { on := 6, ground := Ground.chain }], guard := none }) (fun w hE => TM.out w) rfl (by kernel_rfl) (by kernel_rfl) (by kernel_rfl) (by kernel_rfl) (fun _ _ _ h => h) (by rfl) (fun w hE => by (try dsimp only); go_simp) ?_
  try simp only [Act.put, List.setIfInBounds_toArray, List.set_cons_zero, List.set_cons_succ]
  refine wpAnyE_take (i := 8) (oi := { dst := some 25, op := Op.field 66 (Operand.tmp 24) 1, type := 3, pos := "harmonic.go:115", after := #[{ on := 7, ground := Ground.data }], guard := none }) (v := ?_) rfl (by kernel_rfl) (by kernel_rfl) (by kernel_rfl) (by kernel_rfl) (fun _ _ _ h => h) (Or.inl ⟨by rfl, ?_⟩) ?_
  rotate_left
  · (intro w hE; have a0 := cellb a0 hE; have a1 := cellb a1 hE; have a2 := cellb a2 hE; have a3 := cellb a3 hE; have b0 := cellb b0 hE; have b1 := cellb b1 hE; (try dsimp only); go_simp); (try with_reducible rfl)
  try simp only [Act.put, List.setIfInBounds_toArray, List.set_cons_zero, List.set_cons_succ]
  refine wpAnyE_take (i := 9) (oi := { dst := some 26, op := Op.unOp UnOp.neg 3 (Operand.tmp 25), type := 3, pos := "harmonic.go:115", after := #[{ on := 8, ground := Ground.data }], guard := none }) (v := ?_) rfl (by kernel_rfl) (by kernel_rfl) (by kernel_rfl) (by kernel_rfl) (fun _ _ _ h => h) (Or.inl ⟨by rfl, ?_⟩) ?_
  rotate_left
  · (intro w hE; have a0 := cellb a0 hE; have a1 := cellb a1 hE; have a2 := cellb a2 hE; have a3 := cellb a3 hE; have b0 := cellb b0 hE; have b1 := cellb b1 hE; (try dsimp only); go_simp); (try with_reducible rfl)
  try simp only [Act.put, List.setIfInBounds_toArray, List.set_cons_zero, List.set_cons_succ]
  refine wpAnyE_take (i := 10) (oi := { dst := some 27, op := Op.build 79 #[(0, Operand.tmp 18), (1, Operand.tmp 26)], type := 79, pos := "harmonic.go:115", after := #[{ on := 1, ground := Ground.data }, { on := 9, ground := Ground.data }], guard := none }) (v := ?_) rfl (by kernel_rfl) (by kernel_rfl) (by kernel_rfl) (by kernel_rfl) (fun _ _ _ h => h) (Or.inl ⟨by rfl, ?_⟩) ?_
  rotate_left
  · (intro w hE; have a0 := cellb a0 hE; have a1 := cellb a1 hE; have a2 := cellb a2 hE; have a3 := cellb a3 hE; have b0 := cellb b0 hE; have b1 := cellb b1 hE; (try dsimp only); go_simp); (try with_reducible rfl)
  try simp only [Act.put, List.setIfInBounds_toArray, List.set_cons_zero, List.set_cons_succ]
  refine wpAnyE_one (i := 11) (o := { dst := none, op := Op.store 79 (Operand.tmp 2) (Operand.tmp 27), type := 0, pos := "harmonic.go:115", after := #[{ on := 10, ground := Ground.data }, { on := 7, ground := Ground.chain }, { on := 0, ground := Ground.phase }, { on := 1, ground := Ground.phase }, { on := 2, ground := Ground.phase }, { on := 3, ground := Ground.phase }, { on := 4, ground := Ground.phase }, { on := 5, ground := Ground.phase }, { on := 6, ground := Ground.phase }, { on := 7, ground := Ground.phase }, { on := 8, ground := Ground.phase }, { on := 9, ground := Ground.phase }, { on := 10, ground := Ground.phase }], guard := none }) (by kernel_rfl) rfl (fun wy1 hE K hK => ?_)
  have a0 := cellb a0 hE
  have a1 := cellb a1 hE
  have a2 := cellb a2 hE
  have a3 := cellb a3 hE
  have b0 := cellb b0 hE
  have b1 := cellb b1 hE
  have i2 := i2.carry hE
  have hbz1 := bthen hbz hE
  clear hE
  have c0 := i2.cell (j := 0) (v := .int .i64 0) rfl
  have c1 := i2.cell (j := 1) (v := .int .i64 0) rfl
  have f0 := i2.frozen 0
  have f1 := i2.frozen 1
  go_simp
  obtain ⟨wx1, hwz⟩ : ∃ v, v = (wy1.setCell ⟨w.heap.size + 1, 0, none⟩ (.int .i64 n0)).setCell ⟨w.heap.size + 1, 1, none⟩ (.int .i64 n1) := ⟨_, rfl⟩
  rw [← hwz]
  have hcz1 : Below w.heap.size w wx1 := by rw [hwz]; exact ((hbz1).setCell (by simp) _).setCell (by simp) _
  have i2 := (i2.set 0 (.int .i64 n0)).set 1 (.int .i64 n1)
  rw [← hwz] at i2
  clear hwz
  refine hK _ _ (fun h => absurd rfl h) ?_
  clear hK K
  try simp only [Act.put, List.setIfInBounds_toArray, List.set_cons_zero, List.set_cons_succ]
  refine wpAnyE_done (by kernel_rfl) (fun wy2 hE => ?_) _
  have hbz2 := bthen hcz1 hE
  have i2 := i2.carry hE
  clear hE
  have hq := hbz2
  have z0 := i2.cell (j := 0) (v := .int .i64 n0) rfl
  have z1 := i2.cell (j := 1) (v := .int .i64 n1) rfl
  go_wp2_with fail
  exact bodyPost_ret (v := .agg #[.int .i64 n0, .int .i64 n1]) (by simp [results, Tryz.f55, go_sem, z0, z1]) rfl ⟨rfl, hq⟩

/-- the sign of a root number. -/
def sgnR (a b : Int) : Int := if a = 0 ∧ b = 0 then 0 else if (0 ≤ a ∧ 0 ≤ b) ∨ (0 < a ∧ 3 * b * b < a * a) ∨ (0 < b ∧ a * a < 3 * b * b) then 1 else -1
theorem sq_facts (a : Int) (h : -1073741824 ≤ a ∧ a ≤ 1073741824) : 0 ≤ a * a ∧ a * a ≤ 1152921504606846976 ∧ (a * a = 0 → a = 0) ∧ (a ≠ 0 → 1 ≤ a * a) := by
  have h1 : (a * a).natAbs ≤ 1073741824 * 1073741824 := by rw [Int.natAbs_mul]; exact Nat.mul_le_mul (by omega) (by omega)
  have h0 : 0 ≤ a * a := by
    rcases Int.le_total 0 a with h | h
    · exact Int.mul_nonneg h h
    · exact Int.mul_nonneg_of_nonpos_of_nonpos h h
  have hz : a * a = 0 → a = 0 := fun h => by rcases Int.mul_eq_zero.1 h with h | h <;> exact h
  exact ⟨h0, by omega, hz, fun hn => by have : a * a ≠ 0 := fun h => hn (hz h); omega⟩

/-- the square root of 3 is no quotient. -/
theorem no_root3 : ∀ (n : Nat) (a b : Int), a.natAbs ≤ n → a * a = 3 * (b * b) → a = 0 := by
  intro n
  induction n with
  | zero => intro a b h _; omega
  | succ n ih =>
    intro a b hn h
    by_cases h0 : a = 0
    · exact h0
    have third : ∀ x y : Int, x * x = 3 * y → ∃ k, x = 3 * k := fun x y hxy => by
      refine ⟨x / 3, ?_⟩
      have hx : x = 3 * (x / 3) + x % 3 := by omega
      generalize x / 3 = k at hx
      have hr : x % 3 = 0 ∨ x % 3 = 1 ∨ x % 3 = 2 := by omega
      rcases hr with hr | hr | hr
      · omega
      · have e : x * x = 3 * (3 * (k * k) + 2 * k) + 1 := by rw [hx, hr]; grind
        rw [e] at hxy
        generalize k * k = kk at hxy
        omega
      · have e : x * x = 3 * (3 * (k * k) + 4 * k + 1) + 1 := by rw [hx, hr]; grind
        rw [e] at hxy
        generalize k * k = kk at hxy
        omega
    obtain ⟨k, rfl⟩ := third a (b * b) h
    have h2 : b * b = 3 * (k * k) := by
      have e : 3 * k * (3 * k) = 3 * (3 * (k * k)) := by grind
      rw [e] at h
      generalize k * k = kk at h ⊢
      generalize b * b = bb at h ⊢
      omega
    obtain ⟨m, rfl⟩ := third b (k * k) h2
    have h3 : k * k = 3 * (m * m) := by
      have e : 3 * m * (3 * m) = 3 * (3 * (m * m)) := by grind
      rw [e] at h2
      generalize k * k = kk at h2 ⊢
      generalize m * m = mm at h2 ⊢
      omega
    have := ih k m (by omega) h3
    omega

end Go.Proofs.YtpkaoechbmbolaaGreatDoor

/- The package harmonic: small functions. -/
import Derived.Test.YtpkaoechbmbolaaGreatDoorBlk
import Derived.Test.YtpkaoechbmbolaaGreatDoorOrdE
import Derived.Deep.DeepCutAuto
namespace Go.Proofs.YtpkaoechbmbolaaGreatDoor
set_option linter.unusedSimpArgs false
set_option linter.unusedVariables false
open Go.RowKit

set_option maxRecDepth 100000 in
set_option maxHeartbeats 1000000 in
theorem plusE_any (a b c d : Int) (w : World) :
    Calls Tryz.prog 79 #[.agg #[.int .i64 a, .int .i64 b], .agg #[.int .i64 c, .int .i64 d]] w fun e w' => e = .returned (.agg #[.int .i64 (wrap64 (a + c)), .int .i64 (wrap64 (b + d))]) ∧ Below w.heap.size w w' := by
  go_enter Tryz.func79, Tryz.ntmps79
  go_upto_region 1 with fail
  obtain ⟨W1, hW1⟩ : ∃ v, v = World.alloc w (Obj.cells #[.int .i64 a, .int .i64 b] 66) := ⟨_, rfl⟩
  have kW1 : Below w.heap.size w W1 := by rw [hW1]; exact below_new _ _
  have iW1 : Blk W1 (w.heap.size) 66 [.int .i64 a, .int .i64 b] := by rw [hW1]; exact Blk.new _ _ _
  have sW1 : W1.heap.size = w.heap.size + 1 := by rw [hW1]; simp
  rw [← hW1]
  clear hW1
  obtain ⟨W2, hW2⟩ : ∃ v, v = World.alloc W1 (Obj.cells #[.int .i64 c, .int .i64 d] 66) := ⟨_, rfl⟩
  have kW2 : Below W1.heap.size W1 W2 := by rw [hW2]; exact below_new _ _
  have iW2 : Blk W2 (w.heap.size + 1) 66 [.int .i64 c, .int .i64 d] := by rw [hW2, ← sW1]; exact Blk.new _ _ _
  have sW2 : W2.heap.size = w.heap.size + 1 + 1 := by rw [hW2]; simp [sW1]
  rw [← hW2]
  clear hW2
  obtain ⟨W3, hW3⟩ : ∃ v, v = World.alloc W2 (Obj.cells #[.int .i64 (0), .int .i64 (0)] 66) := ⟨_, rfl⟩
  have kW3 : Below W2.heap.size W2 W3 := by rw [hW3]; exact below_new _ _
  have iW3 : Blk W3 (w.heap.size + 1 + 1) 66 [.int .i64 (0), .int .i64 (0)] := by rw [hW3, ← sW2]; exact Blk.new _ _ _
  have sW3 : W3.heap.size = w.heap.size + 1 + 1 + 1 := by rw [hW3]; simp [sW2]
  rw [← hW3]
  clear hW3
  clear sW1 sW2 sW3
  have i1 := ((iW1.carry kW2).carry kW3)
  have i2 := (iW2.carry kW3)
  have i3 := iW3
  have hB : Below w.heap.size w W3 := (bthen kW1 (bthen kW2 kW3))
  clear iW1 kW1 iW2 kW2 iW3 kW3
  have c0 := i1.cell (j := 0) (v := .int .i64 a) rfl
  have c1 := i1.cell (j := 1) (v := .int .i64 b) rfl
  have c2 := i2.cell (j := 0) (v := .int .i64 c) rfl
  have c3 := i2.cell (j := 1) (v := .int .i64 d) rfl
  have c4 := i3.cell (j := 0) (v := .int .i64 (0)) rfl
  have c5 := i3.cell (j := 1) (v := .int .i64 (0)) rfl
  have f0 := i3.frozen 0
  have f1 := i3.frozen 1
  go_wp2_with fail
  have h9 := ((i3.set 0 (.int .i64 (wrap64 (a + c)))).set 1 (.int .i64 (wrap64 (b + d))))
  have z0 := h9.cell (j := 0) (v := .int .i64 (wrap64 (a + c))) rfl
  have z1 := h9.cell (j := 1) (v := .int .i64 (wrap64 (b + d))) rfl
  exact bodyPost_ret (v := .agg #[.int .i64 (wrap64 (a + c)), .int .i64 (wrap64 (b + d))]) (by simp [results, Tryz.f79, go_sem, z0, z1]) rfl ⟨rfl, ((hB.setCell (by simp; try omega) _).setCell (by simp; try omega) _)⟩

set_option maxRecDepth 100000 in
set_option maxHeartbeats 1000000 in
theorem lessE_any (a b c d : Int) (w : World) :
    Calls Tryz.prog 114 #[.agg #[.int .i64 a, .int .i64 b], .agg #[.int .i64 c, .int .i64 d]] w fun e w' => e = .returned (.agg #[.int .i64 (wrap64 (a - c)), .int .i64 (wrap64 (b - d))]) ∧ Below w.heap.size w w' := by
  go_enter Tryz.func114, Tryz.ntmps114
  go_upto_region 1 with fail
  obtain ⟨W1, hW1⟩ : ∃ v, v = World.alloc w (Obj.cells #[.int .i64 a, .int .i64 b] 66) := ⟨_, rfl⟩
  have kW1 : Below w.heap.size w W1 := by rw [hW1]; exact below_new _ _
  have iW1 : Blk W1 (w.heap.size) 66 [.int .i64 a, .int .i64 b] := by rw [hW1]; exact Blk.new _ _ _
  have sW1 : W1.heap.size = w.heap.size + 1 := by rw [hW1]; simp
  rw [← hW1]
  clear hW1
  obtain ⟨W2, hW2⟩ : ∃ v, v = World.alloc W1 (Obj.cells #[.int .i64 c, .int .i64 d] 66) := ⟨_, rfl⟩
  have kW2 : Below W1.heap.size W1 W2 := by rw [hW2]; exact below_new _ _
  have iW2 : Blk W2 (w.heap.size + 1) 66 [.int .i64 c, .int .i64 d] := by rw [hW2, ← sW1]; exact Blk.new _ _ _
  have sW2 : W2.heap.size = w.heap.size + 1 + 1 := by rw [hW2]; simp [sW1]
  rw [← hW2]
  clear hW2
  obtain ⟨W3, hW3⟩ : ∃ v, v = World.alloc W2 (Obj.cells #[.int .i64 (0), .int .i64 (0)] 66) := ⟨_, rfl⟩
  have kW3 : Below W2.heap.size W2 W3 := by rw [hW3]; exact below_new _ _
  have iW3 : Blk W3 (w.heap.size + 1 + 1) 66 [.int .i64 (0), .int .i64 (0)] := by rw [hW3, ← sW2]; exact Blk.new _ _ _
  have sW3 : W3.heap.size = w.heap.size + 1 + 1 + 1 := by rw [hW3]; simp [sW2]
  rw [← hW3]
  clear hW3
  clear sW1 sW2 sW3
  have i1 := ((iW1.carry kW2).carry kW3)
  have i2 := (iW2.carry kW3)
  have i3 := iW3
  have hB : Below w.heap.size w W3 := (bthen kW1 (bthen kW2 kW3))
  clear iW1 kW1 iW2 kW2 iW3 kW3
  have c0 := i1.cell (j := 0) (v := .int .i64 a) rfl
  have c1 := i1.cell (j := 1) (v := .int .i64 b) rfl
  have c2 := i2.cell (j := 0) (v := .int .i64 c) rfl
  have c3 := i2.cell (j := 1) (v := .int .i64 d) rfl
  have c4 := i3.cell (j := 0) (v := .int .i64 (0)) rfl
  have c5 := i3.cell (j := 1) (v := .int .i64 (0)) rfl
  have f0 := i3.frozen 0
  have f1 := i3.frozen 1
  go_wp2_with fail
  have h9 := ((i3.set 0 (.int .i64 (wrap64 (a - c)))).set 1 (.int .i64 (wrap64 (b - d))))
  have z0 := h9.cell (j := 0) (v := .int .i64 (wrap64 (a - c))) rfl
  have z1 := h9.cell (j := 1) (v := .int .i64 (wrap64 (b - d))) rfl
  exact bodyPost_ret (v := .agg #[.int .i64 (wrap64 (a - c)), .int .i64 (wrap64 (b - d))]) (by simp [results, Tryz.f114, go_sem, z0, z1]) rfl ⟨rfl, ((hB.setCell (by simp; try omega) _).setCell (by simp; try omega) _)⟩

set_option maxRecDepth 100000 in
set_option maxHeartbeats 1000000 in
theorem timesE_any (a b c d : Int) (w : World) :
    Calls Tryz.prog 80 #[.agg #[.int .i64 a, .int .i64 b], .agg #[.int .i64 c, .int .i64 d]] w fun e w' => e = .returned (.agg #[.int .i64 (wrap64 (wrap64 (a * c) - wrap64 (b * d))), .int .i64 (wrap64 (wrap64 (wrap64 (a * d) + wrap64 (b * c)) - wrap64 (b * d)))]) ∧ Below w.heap.size w w' := by
  go_enter Tryz.func80, Tryz.ntmps80
  go_upto_region 1 with fail
  obtain ⟨W1, hW1⟩ : ∃ v, v = World.alloc w (Obj.cells #[.int .i64 a, .int .i64 b] 66) := ⟨_, rfl⟩
  have kW1 : Below w.heap.size w W1 := by rw [hW1]; exact below_new _ _
  have iW1 : Blk W1 (w.heap.size) 66 [.int .i64 a, .int .i64 b] := by rw [hW1]; exact Blk.new _ _ _
  have sW1 : W1.heap.size = w.heap.size + 1 := by rw [hW1]; simp
  rw [← hW1]
  clear hW1
  obtain ⟨W2, hW2⟩ : ∃ v, v = World.alloc W1 (Obj.cells #[.int .i64 c, .int .i64 d] 66) := ⟨_, rfl⟩
  have kW2 : Below W1.heap.size W1 W2 := by rw [hW2]; exact below_new _ _
  have iW2 : Blk W2 (w.heap.size + 1) 66 [.int .i64 c, .int .i64 d] := by rw [hW2, ← sW1]; exact Blk.new _ _ _
  have sW2 : W2.heap.size = w.heap.size + 1 + 1 := by rw [hW2]; simp [sW1]
  rw [← hW2]
  clear hW2
  obtain ⟨W3, hW3⟩ : ∃ v, v = World.alloc W2 (Obj.cells #[.int .i64 (0), .int .i64 (0)] 66) := ⟨_, rfl⟩
  have kW3 : Below W2.heap.size W2 W3 := by rw [hW3]; exact below_new _ _
  have iW3 : Blk W3 (w.heap.size + 1 + 1) 66 [.int .i64 (0), .int .i64 (0)] := by rw [hW3, ← sW2]; exact Blk.new _ _ _
  have sW3 : W3.heap.size = w.heap.size + 1 + 1 + 1 := by rw [hW3]; simp [sW2]
  rw [← hW3]
  clear hW3
  clear sW1 sW2 sW3
  have i1 := ((iW1.carry kW2).carry kW3)
  have i2 := (iW2.carry kW3)
  have i3 := iW3
  have hB : Below w.heap.size w W3 := (bthen kW1 (bthen kW2 kW3))
  clear iW1 kW1 iW2 kW2 iW3 kW3
  have c0 := i1.cell (j := 0) (v := .int .i64 a) rfl
  have c1 := i1.cell (j := 1) (v := .int .i64 b) rfl
  have c2 := i2.cell (j := 0) (v := .int .i64 c) rfl
  have c3 := i2.cell (j := 1) (v := .int .i64 d) rfl
  have c4 := i3.cell (j := 0) (v := .int .i64 (0)) rfl
  have c5 := i3.cell (j := 1) (v := .int .i64 (0)) rfl
  have f0 := i3.frozen 0
  have f1 := i3.frozen 1
  go_wp2_with fail
  have h9 := ((i3.set 0 (.int .i64 (wrap64 (wrap64 (a * c) - wrap64 (b * d))))).set 1 (.int .i64 (wrap64 (wrap64 (wrap64 (a * d) + wrap64 (b * c)) - wrap64 (b * d)))))
  have z0 := h9.cell (j := 0) (v := .int .i64 (wrap64 (wrap64 (a * c) - wrap64 (b * d)))) rfl
  have z1 := h9.cell (j := 1) (v := .int .i64 (wrap64 (wrap64 (wrap64 (a * d) + wrap64 (b * c)) - wrap64 (b * d)))) rfl
  exact bodyPost_ret (v := .agg #[.int .i64 (wrap64 (wrap64 (a * c) - wrap64 (b * d))), .int .i64 (wrap64 (wrap64 (wrap64 (a * d) + wrap64 (b * c)) - wrap64 (b * d)))]) (by simp [results, Tryz.f80, go_sem, z0, z1]) rfl ⟨rfl, ((hB.setCell (by simp; try omega) _).setCell (by simp; try omega) _)⟩

set_option maxRecDepth 100000 in
set_option maxHeartbeats 1000000 in
theorem barE_any (a b : Int) (w : World) :
    Calls Tryz.prog 81 #[.agg #[.int .i64 a, .int .i64 b]] w fun e w' => e = .returned (.agg #[.int .i64 (wrap64 (a - b)), .int .i64 (wrap64 (-b))]) ∧ Below w.heap.size w w' := by
  go_enter Tryz.func81, Tryz.ntmps81
  go_upto_region 1 with fail
  obtain ⟨W1, hW1⟩ : ∃ v, v = World.alloc w (Obj.cells #[.int .i64 a, .int .i64 b] 66) := ⟨_, rfl⟩
  have kW1 : Below w.heap.size w W1 := by rw [hW1]; exact below_new _ _
  have iW1 : Blk W1 (w.heap.size) 66 [.int .i64 a, .int .i64 b] := by rw [hW1]; exact Blk.new _ _ _
  have sW1 : W1.heap.size = w.heap.size + 1 := by rw [hW1]; simp
  rw [← hW1]
  clear hW1
  obtain ⟨W2, hW2⟩ : ∃ v, v = World.alloc W1 (Obj.cells #[.int .i64 (0), .int .i64 (0)] 66) := ⟨_, rfl⟩
  have kW2 : Below W1.heap.size W1 W2 := by rw [hW2]; exact below_new _ _
  have iW2 : Blk W2 (w.heap.size + 1) 66 [.int .i64 (0), .int .i64 (0)] := by rw [hW2, ← sW1]; exact Blk.new _ _ _
  have sW2 : W2.heap.size = w.heap.size + 1 + 1 := by rw [hW2]; simp [sW1]
  rw [← hW2]
  clear hW2
  clear sW1 sW2
  have i1 := (iW1.carry kW2)
  have i2 := iW2
  have hB : Below w.heap.size w W2 := (bthen kW1 kW2)
  clear iW1 kW1 iW2 kW2
  have c0 := i1.cell (j := 0) (v := .int .i64 a) rfl
  have c1 := i1.cell (j := 1) (v := .int .i64 b) rfl
  have c2 := i2.cell (j := 0) (v := .int .i64 (0)) rfl
  have c3 := i2.cell (j := 1) (v := .int .i64 (0)) rfl
  have f0 := i2.frozen 0
  have f1 := i2.frozen 1
  go_wp2_with fail
  have h9 := ((i2.set 0 (.int .i64 (wrap64 (a - b)))).set 1 (.int .i64 (wrap64 (-b))))
  have z0 := h9.cell (j := 0) (v := .int .i64 (wrap64 (a - b))) rfl
  have z1 := h9.cell (j := 1) (v := .int .i64 (wrap64 (-b))) rfl
  exact bodyPost_ret (v := .agg #[.int .i64 (wrap64 (a - b)), .int .i64 (wrap64 (-b))]) (by simp [results, Tryz.f81, go_sem, z0, z1]) rfl ⟨rfl, ((hB.setCell (by simp; try omega) _).setCell (by simp; try omega) _)⟩

set_option maxRecDepth 100000 in
set_option maxHeartbeats 2000000 in
theorem plusC_any (x0 x1 x2 x3 y0 y1 y2 y3 : Int) (w : World) :
    Calls Tryz.prog 77 #[.agg #[.int .i64 x0, .int .i64 x1, .int .i64 x2, .int .i64 x3], .agg #[.int .i64 y0, .int .i64 y1, .int .i64 y2, .int .i64 y3]] w fun e w' => e = .returned (.agg #[.int .i64 (wrap64 (x0 + y0)), .int .i64 (wrap64 (x1 + y1)), .int .i64 (wrap64 (x2 + y2)), .int .i64 (wrap64 (x3 + y3))]) ∧ Below w.heap.size w w' := by
  go_enter Tryz.func77, Tryz.ntmps77
  go_upto_region 1 with fail
  obtain ⟨W1, hW1⟩ : ∃ v, v = World.alloc w (Obj.cells #[.int .i64 x0, .int .i64 x1, .int .i64 x2, .int .i64 x3] 68) := ⟨_, rfl⟩
  have kW1 : Below w.heap.size w W1 := by rw [hW1]; exact below_new _ _
  have iW1 : Blk W1 (w.heap.size) 68 [.int .i64 x0, .int .i64 x1, .int .i64 x2, .int .i64 x3] := by rw [hW1]; exact Blk.new _ _ _
  have sW1 : W1.heap.size = w.heap.size + 1 := by rw [hW1]; simp
  rw [← hW1]
  clear hW1
  obtain ⟨W2, hW2⟩ : ∃ v, v = World.alloc W1 (Obj.cells #[.int .i64 y0, .int .i64 y1, .int .i64 y2, .int .i64 y3] 68) := ⟨_, rfl⟩
  have kW2 : Below W1.heap.size W1 W2 := by rw [hW2]; exact below_new _ _
  have iW2 : Blk W2 (w.heap.size + 1) 68 [.int .i64 y0, .int .i64 y1, .int .i64 y2, .int .i64 y3] := by rw [hW2, ← sW1]; exact Blk.new _ _ _
  have sW2 : W2.heap.size = w.heap.size + 1 + 1 := by rw [hW2]; simp [sW1]
  rw [← hW2]
  clear hW2
  obtain ⟨W3, hW3⟩ : ∃ v, v = World.alloc W2 (Obj.cells #[.int .i64 0, .int .i64 0, .int .i64 0, .int .i64 0] 68) := ⟨_, rfl⟩
  have kW3 : Below W2.heap.size W2 W3 := by rw [hW3]; exact below_new _ _
  have iW3 : Blk W3 (w.heap.size + 1 + 1) 68 [.int .i64 0, .int .i64 0, .int .i64 0, .int .i64 0] := by rw [hW3, ← sW2]; exact Blk.new _ _ _
  have sW3 : W3.heap.size = w.heap.size + 1 + 1 + 1 := by rw [hW3]; simp [sW2]
  rw [← hW3]
  clear hW3
  clear sW1 sW2 sW3
  have i1 := (iW1.carry kW2).carry kW3
  have i2 := iW2.carry kW3
  have i3 := iW3
  have hB := bthen kW1 (bthen kW2 kW3)
  clear iW1 kW1 iW2 kW2 iW3 kW3
  have a0 := i1.cell (j := 0) (v := .int .i64 x0) rfl
  have a1 := i1.cell (j := 1) (v := .int .i64 x1) rfl
  have a2 := i1.cell (j := 2) (v := .int .i64 x2) rfl
  have a3 := i1.cell (j := 3) (v := .int .i64 x3) rfl
  have b0 := i2.cell (j := 0) (v := .int .i64 y0) rfl
  have b1 := i2.cell (j := 1) (v := .int .i64 y1) rfl
  have b2 := i2.cell (j := 2) (v := .int .i64 y2) rfl
  have b3 := i2.cell (j := 3) (v := .int .i64 y3) rfl
  refine wp_region_E 11 (by kernel_rfl) ?_
  obtain ⟨wz, hwz⟩ : ∃ v, v = W3.drew := ⟨_, rfl⟩
  rw [← hwz]
  have hlz : Below W3.heap.size W3 wz := by rw [hwz]; exact (Below.refl _ _).drew
  have hbz := bthen hB hlz
  have a0 := cellb a0 hlz
  have a1 := cellb a1 hlz
  have a2 := cellb a2 hlz
  have a3 := cellb a3 hlz
  have b0 := cellb b0 hlz
  have b1 := cellb b1 hlz
  have b2 := cellb b2 hlz
  have b3 := cellb b3 hlz
  have i3 := i3.carry hlz
  clear hwz hlz
  refine wpAnyE_take (i := 0) (oi := { dst := some 5, op := Op.fieldAddr 68 (Operand.tmp 2) 0, type := 0, pos := "harmonic.go:90", after := #[], guard := none }) (v := ?_) rfl (by kernel_rfl) (by kernel_rfl) (by kernel_rfl) (by kernel_rfl) (fun _ _ _ h => h) (Or.inl ⟨by rfl, ?_⟩) ?_
  rotate_left
  · (intro w hE; have a0 := cellb a0 hE; have a1 := cellb a1 hE; have a2 := cellb a2 hE; have a3 := cellb a3 hE; have b0 := cellb b0 hE; have b1 := cellb b1 hE; have b2 := cellb b2 hE; have b3 := cellb b3 hE; (try dsimp only); go_simp); (try with_reducible rfl)
  try simp only [Act.put, List.setIfInBounds_toArray, List.set_cons_zero, List.set_cons_succ]
  refine wpAnyE_take (i := 1) (oi := { dst := some 6, op := Op.load 66 (Operand.tmp 5), type := 66, pos := "harmonic.go:90", after := #[{ on := 0, ground := Ground.data }], guard := none }) (v := ?_) rfl (by kernel_rfl) (by kernel_rfl) (by kernel_rfl) (by kernel_rfl) (fun _ _ _ h => h) (Or.inl ⟨by rfl, ?_⟩) ?_
  rotate_left
  · (intro w hE; have a0 := cellb a0 hE; have a1 := cellb a1 hE; have a2 := cellb a2 hE; have a3 := cellb a3 hE; have b0 := cellb b0 hE; have b1 := cellb b1 hE; have b2 := cellb b2 hE; have b3 := cellb b3 hE; (try dsimp only); go_simp); (try with_reducible rfl)
  try simp only [Act.put, List.setIfInBounds_toArray, List.set_cons_zero, List.set_cons_succ]
  refine wpAnyE_take (i := 2) (oi := { dst := some 7, op := Op.fieldAddr 68 (Operand.tmp 3) 0, type := 0, pos := "harmonic.go:90", after := #[], guard := none }) (v := ?_) rfl (by kernel_rfl) (by kernel_rfl) (by kernel_rfl) (by kernel_rfl) (fun _ _ _ h => h) (Or.inl ⟨by rfl, ?_⟩) ?_
  rotate_left
  · (intro w hE; have a0 := cellb a0 hE; have a1 := cellb a1 hE; have a2 := cellb a2 hE; have a3 := cellb a3 hE; have b0 := cellb b0 hE; have b1 := cellb b1 hE; have b2 := cellb b2 hE; have b3 := cellb b3 hE; (try dsimp only); go_simp); (try with_reducible rfl)
  try simp only [Act.put, List.setIfInBounds_toArray, List.set_cons_zero, List.set_cons_succ]
  refine wpAnyE_take (i := 3) (oi := { dst := some 8, op := Op.load 66 (Operand.tmp 7), type := 66, pos := "harmonic.go:90", after := #[{ on := 2, ground := Ground.data }], guard := none }) (v := ?_) rfl (by kernel_rfl) (by kernel_rfl) (by kernel_rfl) (by kernel_rfl) (fun _ _ _ h => h) (Or.inl ⟨by rfl, ?_⟩) ?_
  rotate_left
  · (intro w hE; have a0 := cellb a0 hE; have a1 := cellb a1 hE; have a2 := cellb a2 hE; have a3 := cellb a3 hE; have b0 := cellb b0 hE; have b1 := cellb b1 hE; have b2 := cellb b2 hE; have b3 := cellb b3 hE; (try dsimp only); go_simp); (try with_reducible rfl)
  try simp only [Act.put, List.setIfInBounds_toArray, List.set_cons_zero, List.set_cons_succ]
  refine wpAnyE_take (i := 5) (oi := { dst := some 10, op := Op.fieldAddr 68 (Operand.tmp 2) 1, type := 0, pos := "harmonic.go:90", after := #[], guard := none }) (v := ?_) rfl (by kernel_rfl) (by kernel_rfl) (by kernel_rfl) (by kernel_rfl) (fun _ _ _ h => h) (Or.inl ⟨by rfl, ?_⟩) ?_
  rotate_left
  · (intro w hE; have a0 := cellb a0 hE; have a1 := cellb a1 hE; have a2 := cellb a2 hE; have a3 := cellb a3 hE; have b0 := cellb b0 hE; have b1 := cellb b1 hE; have b2 := cellb b2 hE; have b3 := cellb b3 hE; (try dsimp only); go_simp); (try with_reducible rfl)
  try simp only [Act.put, List.setIfInBounds_toArray, List.set_cons_zero, List.set_cons_succ]
  refine wpAnyE_take (i := 6) (oi := { dst := some 11, op := Op.load 66 (Operand.tmp 10), type := 66, pos := "harmonic.go:90", after := #[{ on := 5, ground := Ground.data }], guard := none }) (v := ?_) rfl (by kernel_rfl) (by kernel_rfl) (by kernel_rfl) (by kernel_rfl) (fun _ _ _ h => h) (Or.inl ⟨by rfl, ?_⟩) ?_
  rotate_left
  · (intro w hE; have a0 := cellb a0 hE; have a1 := cellb a1 hE; have a2 := cellb a2 hE; have a3 := cellb a3 hE; have b0 := cellb b0 hE; have b1 := cellb b1 hE; have b2 := cellb b2 hE; have b3 := cellb b3 hE; (try dsimp only); go_simp); (try with_reducible rfl)
  try simp only [Act.put, List.setIfInBounds_toArray, List.set_cons_zero, List.set_cons_succ]
  refine wpAnyE_take (i := 7) (oi := { dst := some 12, op := Op.fieldAddr 68 (Operand.tmp 3) 1, type := 0, pos := "harmonic.go:90", after := #[], guard := none }) (v := ?_) rfl (by kernel_rfl) (by kernel_rfl) (by kernel_rfl) (by kernel_rfl) (fun _ _ _ h => h) (Or.inl ⟨by rfl, ?_⟩) ?_
  rotate_left
  · (intro w hE; have a0 := cellb a0 hE; have a1 := cellb a1 hE; have a2 := cellb a2 hE; have a3 := cellb a3 hE; have b0 := cellb b0 hE; have b1 := cellb b1 hE; have b2 := cellb b2 hE; have b3 := cellb b3 hE; (try dsimp only); go_simp); (try with_reducible rfl)
  try simp only [Act.put, List.setIfInBounds_toArray, List.set_cons_zero, List.set_cons_succ]
  refine wpAnyE_take (i := 8) (oi := { dst := some 13, op := Op.load 66 (Operand.tmp 12), type := 66, pos := "harmonic.go:90", after := #[{ on := 7, ground := Ground.data }], guard := none }) (v := ?_) rfl (by kernel_rfl) (by kernel_rfl) (by kernel_rfl) (by kernel_rfl) (fun _ _ _ h => h) (Or.inl ⟨by rfl, ?_⟩) ?_
  rotate_left
  · (intro w hE; have a0 := cellb a0 hE; have a1 := cellb a1 hE; have a2 := cellb a2 hE; have a3 := cellb a3 hE; have b0 := cellb b0 hE; have b1 := cellb b1 hE; have b2 := cellb b2 hE; have b3 := cellb b3 hE; (try dsimp only); go_simp); (try with_reducible rfl)
  try simp only [Act.put, List.setIfInBounds_toArray, List.set_cons_zero, List.set_cons_succ]
  refine wpAnyE_call (i := 4) (oi := { dst := some 9, op := Op.call { callee := Callee.value (Operand.func 79), args := #[Operand.tmp 6, Operand.tmp 8], argTypes := #[66, 66] }, type := 66, pos := "harmonic.go:90", after := #[{ on := 1, ground := Ground.data }, { on := 3, ground := Ground.data }], guard := none }) (fun w hE => plusE_any x0 x1 y0 y1 w) rfl (by kernel_rfl) (by kernel_rfl) (by kernel_rfl) (by kernel_rfl) (fun _ _ _ h => h) (by rfl) (fun w hE => by (try dsimp only); go_simp) ?_
  try simp only [Act.put, List.setIfInBounds_toArray, List.set_cons_zero, List.set_cons_succ]
  refine wpAnyE_call (i := 9) (oi := { dst := some 14, op := Op.call { callee := Callee.value (Operand.func 79), args := #[Operand.tmp 11, Operand.tmp 13], argTypes := #[66, 66] }, type := 66, pos := "harmonic.go:90", after := #[{ on := 6, ground := Ground.data }, { on := 8, ground := Ground.data }, { on := 4, ground := Ground.chain }], guard := none }) (fun w hE => plusE_any x2 x3 y2 y3 w) rfl (by kernel_rfl) (by kernel_rfl) (by kernel_rfl) (by kernel_rfl) (fun _ _ _ h => h) (by rfl) (fun w hE => by (try dsimp only); go_simp) ?_
  try simp only [Act.put, List.setIfInBounds_toArray, List.set_cons_zero, List.set_cons_succ]
  refine wpAnyE_take (i := 10) (oi := { dst := some 15, op := Op.build 68 #[(0, Operand.tmp 9), (1, Operand.tmp 14)], type := 68, pos := "harmonic.go:90", after := #[{ on := 4, ground := Ground.data }, { on := 9, ground := Ground.data }], guard := none }) (v := ?_) rfl (by kernel_rfl) (by kernel_rfl) (by kernel_rfl) (by kernel_rfl) (fun _ _ _ h => h) (Or.inl ⟨by rfl, ?_⟩) ?_
  rotate_left
  · (intro w hE; have a0 := cellb a0 hE; have a1 := cellb a1 hE; have a2 := cellb a2 hE; have a3 := cellb a3 hE; have b0 := cellb b0 hE; have b1 := cellb b1 hE; have b2 := cellb b2 hE; have b3 := cellb b3 hE; (try dsimp only); go_simp); (try with_reducible rfl)
  try simp only [Act.put, List.setIfInBounds_toArray, List.set_cons_zero, List.set_cons_succ]
  refine wpAnyE_one (i := 11) (o := { dst := none, op := Op.store 68 (Operand.tmp 4) (Operand.tmp 15), type := 0, pos := "harmonic.go:90", after := #[{ on := 10, ground := Ground.data }, { on := 9, ground := Ground.chain }, { on := 0, ground := Ground.phase }, { on := 1, ground := Ground.phase }, { on := 2, ground := Ground.phase }, { on := 3, ground := Ground.phase }, { on := 4, ground := Ground.phase }, { on := 5, ground := Ground.phase }, { on := 6, ground := Ground.phase }, { on := 7, ground := Ground.phase }, { on := 8, ground := Ground.phase }, { on := 9, ground := Ground.phase }, { on := 10, ground := Ground.phase }], guard := none }) (by kernel_rfl) rfl (fun wy1 hE K hK => ?_)
  have a0 := cellb a0 hE
  have a1 := cellb a1 hE
  have a2 := cellb a2 hE
  have a3 := cellb a3 hE
  have b0 := cellb b0 hE
  have b1 := cellb b1 hE
  have b2 := cellb b2 hE
  have b3 := cellb b3 hE
  have i3 := i3.carry hE
  have hbz1 := bthen hbz hE
  clear hE
  have c0 := i3.cell (j := 0) (v := .int .i64 0) rfl
  have c1 := i3.cell (j := 1) (v := .int .i64 0) rfl
  have c2 := i3.cell (j := 2) (v := .int .i64 0) rfl
  have c3 := i3.cell (j := 3) (v := .int .i64 0) rfl
  have f0 := i3.frozen 0
  have f1 := i3.frozen 1
  have f2 := i3.frozen 2
  have f3 := i3.frozen 3
  go_simp
  obtain ⟨wx1, hwz⟩ : ∃ v, v = ((((wy1.setCell ⟨w.heap.size + 1 + 1, 0, none⟩ (.int .i64 (wrap64 (x0 + y0)))).setCell ⟨w.heap.size + 1 + 1, 1, none⟩ (.int .i64 (wrap64 (x1 + y1)))).setCell ⟨w.heap.size + 1 + 1, 2, none⟩ (.int .i64 (wrap64 (x2 + y2)))).setCell ⟨w.heap.size + 1 + 1, 3, none⟩ (.int .i64 (wrap64 (x3 + y3)))) := ⟨_, rfl⟩
  rw [← hwz]
  have hcz1 : Below w.heap.size w wx1 := by rw [hwz]; exact ((((hbz1.setCell (by simp; try omega) _).setCell (by simp; try omega) _).setCell (by simp; try omega) _).setCell (by simp; try omega) _)
  have i3 := ((((i3.set 0 (.int .i64 (wrap64 (x0 + y0)))).set 1 (.int .i64 (wrap64 (x1 + y1)))).set 2 (.int .i64 (wrap64 (x2 + y2)))).set 3 (.int .i64 (wrap64 (x3 + y3))))
  rw [← hwz] at i3
  clear hwz
  refine hK _ _ (fun h => absurd rfl h) ?_
  clear hK K
  try simp only [Act.put, List.setIfInBounds_toArray, List.set_cons_zero, List.set_cons_succ]
  refine wpAnyE_done (by kernel_rfl) (fun wy2 hE => ?_) _
  have hbz2 := bthen hcz1 hE
  have i3 := i3.carry hE
  clear hE
  have hq := hbz2
  have z0 := i3.cell (j := 0) (v := .int .i64 (wrap64 (x0 + y0))) rfl
  have z1 := i3.cell (j := 1) (v := .int .i64 (wrap64 (x1 + y1))) rfl
  have z2 := i3.cell (j := 2) (v := .int .i64 (wrap64 (x2 + y2))) rfl
  have z3 := i3.cell (j := 3) (v := .int .i64 (wrap64 (x3 + y3))) rfl
  go_wp2_with fail
  exact bodyPost_ret (v := .agg #[.int .i64 (wrap64 (x0 + y0)), .int .i64 (wrap64 (x1 + y1)), .int .i64 (wrap64 (x2 + y2)), .int .i64 (wrap64 (x3 + y3))]) (by simp [results, Tryz.f77, go_sem, z0, z1, z2, z3]) rfl ⟨rfl, hq⟩

/-- the product of Eisenstein integers. -/
def eiA (a b c d : Int) : Int := wrap64 (wrap64 (a * c) - wrap64 (b * d))
def eiB (a b c d : Int) : Int := wrap64 (wrap64 (wrap64 (a * d) + wrap64 (b * c)) - wrap64 (b * d))
theorem timesE' (a b c d : Int) (w : World) :
    Calls Tryz.prog 80 #[.agg #[.int .i64 a, .int .i64 b], .agg #[.int .i64 c, .int .i64 d]] w fun e w' => e = .returned (.agg #[.int .i64 (eiA a b c d), .int .i64 (eiB a b c d)]) ∧ Below w.heap.size w w' := timesE_any a b c d w
/-- the product of two numbers of the ring. -/
def cy0 (x0 x1 x2 x3 y0 y1 y2 y3 : Int) : Int := wrap64 (eiA x0 x1 y0 y1 - eiA x2 x3 y2 y3)
def cy1 (x0 x1 x2 x3 y0 y1 y2 y3 : Int) : Int := wrap64 (eiB x0 x1 y0 y1 - eiB x2 x3 y2 y3)
def cy2 (x0 x1 x2 x3 y0 y1 y2 y3 : Int) : Int := wrap64 (eiA x0 x1 y2 y3 + eiA x2 x3 y0 y1)
def cy3 (x0 x1 x2 x3 y0 y1 y2 y3 : Int) : Int := wrap64 (eiB x0 x1 y2 y3 + eiB x2 x3 y0 y1)

set_option maxRecDepth 100000 in
set_option maxHeartbeats 2000000 in
theorem timesC_raw (x0 x1 x2 x3 y0 y1 y2 y3 : Int) (w : World) :
    Calls Tryz.prog 111 #[.agg #[.int .i64 x0, .int .i64 x1, .int .i64 x2, .int .i64 x3], .agg #[.int .i64 y0, .int .i64 y1, .int .i64 y2, .int .i64 y3]] w fun e w' => e = .returned (.agg #[.int .i64 (wrap64 (eiA x0 x1 y0 y1 - eiA x2 x3 y2 y3)), .int .i64 (wrap64 (eiB x0 x1 y0 y1 - eiB x2 x3 y2 y3)), .int .i64 (wrap64 (eiA x0 x1 y2 y3 + eiA x2 x3 y0 y1)), .int .i64 (wrap64 (eiB x0 x1 y2 y3 + eiB x2 x3 y0 y1))]) ∧ Below w.heap.size w w' := by
  go_enter Tryz.func111, Tryz.ntmps111
  go_upto_region 1 with fail
  obtain ⟨W1, hW1⟩ : ∃ v, v = World.alloc w (Obj.cells #[.int .i64 x0, .int .i64 x1, .int .i64 x2, .int .i64 x3] 68) := ⟨_, rfl⟩
  have kW1 : Below w.heap.size w W1 := by rw [hW1]; exact below_new _ _
  have iW1 : Blk W1 (w.heap.size) 68 [.int .i64 x0, .int .i64 x1, .int .i64 x2, .int .i64 x3] := by rw [hW1]; exact Blk.new _ _ _
  have sW1 : W1.heap.size = w.heap.size + 1 := by rw [hW1]; simp
  rw [← hW1]
  clear hW1
  obtain ⟨W2, hW2⟩ : ∃ v, v = World.alloc W1 (Obj.cells #[.int .i64 y0, .int .i64 y1, .int .i64 y2, .int .i64 y3] 68) := ⟨_, rfl⟩
  have kW2 : Below W1.heap.size W1 W2 := by rw [hW2]; exact below_new _ _
  have iW2 : Blk W2 (w.heap.size + 1) 68 [.int .i64 y0, .int .i64 y1, .int .i64 y2, .int .i64 y3] := by rw [hW2, ← sW1]; exact Blk.new _ _ _
  have sW2 : W2.heap.size = w.heap.size + 1 + 1 := by rw [hW2]; simp [sW1]
  rw [← hW2]
  clear hW2
  obtain ⟨W3, hW3⟩ : ∃ v, v = World.alloc W2 (Obj.cells #[.int .i64 0, .int .i64 0, .int .i64 0, .int .i64 0] 68) := ⟨_, rfl⟩
  have kW3 : Below W2.heap.size W2 W3 := by rw [hW3]; exact below_new _ _
  have iW3 : Blk W3 (w.heap.size + 1 + 1) 68 [.int .i64 0, .int .i64 0, .int .i64 0, .int .i64 0] := by rw [hW3, ← sW2]; exact Blk.new _ _ _
  have sW3 : W3.heap.size = w.heap.size + 1 + 1 + 1 := by rw [hW3]; simp [sW2]
  rw [← hW3]
  clear hW3
  clear sW1 sW2 sW3
  have i1 := (iW1.carry kW2).carry kW3
  have i2 := iW2.carry kW3
  have i3 := iW3
  have hB := bthen kW1 (bthen kW2 kW3)
  clear iW1 kW1 iW2 kW2 iW3 kW3
  have a0 := i1.cell (j := 0) (v := .int .i64 x0) rfl
  have a1 := i1.cell (j := 1) (v := .int .i64 x1) rfl
  have a2 := i1.cell (j := 2) (v := .int .i64 x2) rfl
  have a3 := i1.cell (j := 3) (v := .int .i64 x3) rfl
  have b0 := i2.cell (j := 0) (v := .int .i64 y0) rfl
  have b1 := i2.cell (j := 1) (v := .int .i64 y1) rfl
  have b2 := i2.cell (j := 2) (v := .int .i64 y2) rfl
  have b3 := i2.cell (j := 3) (v := .int .i64 y3) rfl
  refine wp_region_E 23 (by kernel_rfl) ?_
  obtain ⟨wz, hwz⟩ : ∃ v, v = W3.drew := ⟨_, rfl⟩
  rw [← hwz]
  have hlz : Below W3.heap.size W3 wz := by rw [hwz]; exact (Below.refl _ _).drew
  have hbz := bthen hB hlz
  have a0 := cellb a0 hlz
  have a1 := cellb a1 hlz
  have a2 := cellb a2 hlz
  have a3 := cellb a3 hlz
  have b0 := cellb b0 hlz
  have b1 := cellb b1 hlz
  have b2 := cellb b2 hlz
  have b3 := cellb b3 hlz
  have i3 := i3.carry hlz
  clear hwz hlz
  refine wpAnyE_take (i := 0) (oi := { dst := some 5, op := Op.fieldAddr 68 (Operand.tmp 2) 0, type := 0, pos := "harmonic.go:93", after := #[], guard := none }) (v := ?_) rfl (by kernel_rfl) (by kernel_rfl) (by kernel_rfl) (by kernel_rfl) (fun _ _ _ h => h) (Or.inl ⟨by rfl, ?_⟩) ?_
  rotate_left
  · (intro w hE; have a0 := cellb a0 hE; have a1 := cellb a1 hE; have a2 := cellb a2 hE; have a3 := cellb a3 hE; have b0 := cellb b0 hE; have b1 := cellb b1 hE; have b2 := cellb b2 hE; have b3 := cellb b3 hE; (try dsimp only); go_simp); (try with_reducible rfl)
  try simp only [Act.put, List.setIfInBounds_toArray, List.set_cons_zero, List.set_cons_succ]
  refine wpAnyE_take (i := 1) (oi := { dst := some 6, op := Op.load 66 (Operand.tmp 5), type := 66, pos := "harmonic.go:93", after := #[{ on := 0, ground := Ground.data }], guard := none }) (v := ?_) rfl (by kernel_rfl) (by kernel_rfl) (by kernel_rfl) (by kernel_rfl) (fun _ _ _ h => h) (Or.inl ⟨by rfl, ?_⟩) ?_
  rotate_left
  · (intro w hE; have a0 := cellb a0 hE; have a1 := cellb a1 hE; have a2 := cellb a2 hE; have a3 := cellb a3 hE; have b0 := cellb b0 hE; have b1 := cellb b1 hE; have b2 := cellb b2 hE; have b3 := cellb b3 hE; (try dsimp only); go_simp); (try with_reducible rfl)
  try simp only [Act.put, List.setIfInBounds_toArray, List.set_cons_zero, List.set_cons_succ]
  refine wpAnyE_take (i := 2) (oi := { dst := some 7, op := Op.fieldAddr 68 (Operand.tmp 3) 0, type := 0, pos := "harmonic.go:93", after := #[], guard := none }) (v := ?_) rfl (by kernel_rfl) (by kernel_rfl) (by kernel_rfl) (by kernel_rfl) (fun _ _ _ h => h) (Or.inl ⟨by rfl, ?_⟩) ?_
  rotate_left
  · (intro w hE; have a0 := cellb a0 hE; have a1 := cellb a1 hE; have a2 := cellb a2 hE; have a3 := cellb a3 hE; have b0 := cellb b0 hE; have b1 := cellb b1 hE; have b2 := cellb b2 hE; have b3 := cellb b3 hE; (try dsimp only); go_simp); (try with_reducible rfl)
  try simp only [Act.put, List.setIfInBounds_toArray, List.set_cons_zero, List.set_cons_succ]
  refine wpAnyE_take (i := 3) (oi := { dst := some 8, op := Op.load 66 (Operand.tmp 7), type := 66, pos := "harmonic.go:93", after := #[{ on := 2, ground := Ground.data }], guard := none }) (v := ?_) rfl (by kernel_rfl) (by kernel_rfl) (by kernel_rfl) (by kernel_rfl) (fun _ _ _ h => h) (Or.inl ⟨by rfl, ?_⟩) ?_
  rotate_left
  · (intro w hE; have a0 := cellb a0 hE; have a1 := cellb a1 hE; have a2 := cellb a2 hE; have a3 := cellb a3 hE; have b0 := cellb b0 hE; have b1 := cellb b1 hE; have b2 := cellb b2 hE; have b3 := cellb b3 hE; (try dsimp only); go_simp); (try with_reducible rfl)
  try simp only [Act.put, List.setIfInBounds_toArray, List.set_cons_zero, List.set_cons_succ]
  refine wpAnyE_take (i := 5) (oi := { dst := some 10, op := Op.fieldAddr 68 (Operand.tmp 2) 1, type := 0, pos := "harmonic.go:93", after := #[], guard := none }) (v := ?_) rfl (by kernel_rfl) (by kernel_rfl) (by kernel_rfl) (by kernel_rfl) (fun _ _ _ h => h) (Or.inl ⟨by rfl, ?_⟩) ?_
  rotate_left
  · (intro w hE; have a0 := cellb a0 hE; have a1 := cellb a1 hE; have a2 := cellb a2 hE; have a3 := cellb a3 hE; have b0 := cellb b0 hE; have b1 := cellb b1 hE; have b2 := cellb b2 hE; have b3 := cellb b3 hE; (try dsimp only); go_simp); (try with_reducible rfl)
  try simp only [Act.put, List.setIfInBounds_toArray, List.set_cons_zero, List.set_cons_succ]
  refine wpAnyE_take (i := 6) (oi := { dst := some 11, op := Op.load 66 (Operand.tmp 10), type := 66, pos := "harmonic.go:93", after := #[{ on := 5, ground := Ground.data }], guard := none }) (v := ?_) rfl (by kernel_rfl) (by kernel_rfl) (by kernel_rfl) (by kernel_rfl) (fun _ _ _ h => h) (Or.inl ⟨by rfl, ?_⟩) ?_
  rotate_left
  · (intro w hE; have a0 := cellb a0 hE; have a1 := cellb a1 hE; have a2 := cellb a2 hE; have a3 := cellb a3 hE; have b0 := cellb b0 hE; have b1 := cellb b1 hE; have b2 := cellb b2 hE; have b3 := cellb b3 hE; (try dsimp only); go_simp); (try with_reducible rfl)
  try simp only [Act.put, List.setIfInBounds_toArray, List.set_cons_zero, List.set_cons_succ]
  refine wpAnyE_take (i := 7) (oi := { dst := some 12, op := Op.fieldAddr 68 (Operand.tmp 3) 1, type := 0, pos := "harmonic.go:93", after := #[], guard := none }) (v := ?_) rfl (by kernel_rfl) (by kernel_rfl) (by kernel_rfl) (by kernel_rfl) (fun _ _ _ h => h) (Or.inl ⟨by rfl, ?_⟩) ?_
  rotate_left
  · (intro w hE; have a0 := cellb a0 hE; have a1 := cellb a1 hE; have a2 := cellb a2 hE; have a3 := cellb a3 hE; have b0 := cellb b0 hE; have b1 := cellb b1 hE; have b2 := cellb b2 hE; have b3 := cellb b3 hE; (try dsimp only); go_simp); (try with_reducible rfl)
  try simp only [Act.put, List.setIfInBounds_toArray, List.set_cons_zero, List.set_cons_succ]
  refine wpAnyE_take (i := 8) (oi := { dst := some 13, op := Op.load 66 (Operand.tmp 12), type := 66, pos := "harmonic.go:93", after := #[{ on := 7, ground := Ground.data }], guard := none }) (v := ?_) rfl (by kernel_rfl) (by kernel_rfl) (by kernel_rfl) (by kernel_rfl) (fun _ _ _ h => h) (Or.inl ⟨by rfl, ?_⟩) ?_
  rotate_left
  · (intro w hE; have a0 := cellb a0 hE; have a1 := cellb a1 hE; have a2 := cellb a2 hE; have a3 := cellb a3 hE; have b0 := cellb b0 hE; have b1 := cellb b1 hE; have b2 := cellb b2 hE; have b3 := cellb b3 hE; (try dsimp only); go_simp); (try with_reducible rfl)
  try simp only [Act.put, List.setIfInBounds_toArray, List.set_cons_zero, List.set_cons_succ]
  refine wpAnyE_take (i := 11) (oi := { dst := some 16, op := Op.fieldAddr 68 (Operand.tmp 2) 0, type := 0, pos := "harmonic.go:93", after := #[], guard := none }) (v := ?_) rfl (by kernel_rfl) (by kernel_rfl) (by kernel_rfl) (by kernel_rfl) (fun _ _ _ h => h) (Or.inl ⟨by rfl, ?_⟩) ?_
  rotate_left
  · (intro w hE; have a0 := cellb a0 hE; have a1 := cellb a1 hE; have a2 := cellb a2 hE; have a3 := cellb a3 hE; have b0 := cellb b0 hE; have b1 := cellb b1 hE; have b2 := cellb b2 hE; have b3 := cellb b3 hE; (try dsimp only); go_simp); (try with_reducible rfl)
  try simp only [Act.put, List.setIfInBounds_toArray, List.set_cons_zero, List.set_cons_succ]
  refine wpAnyE_take (i := 12) (oi := { dst := some 17, op := Op.load 66 (Operand.tmp 16), type := 66, pos := "harmonic.go:93", after := #[{ on := 11, ground := Ground.data }], guard := none }) (v := ?_) rfl (by kernel_rfl) (by kernel_rfl) (by kernel_rfl) (by kernel_rfl) (fun _ _ _ h => h) (Or.inl ⟨by rfl, ?_⟩) ?_
  rotate_left
  · (intro w hE; have a0 := cellb a0 hE; have a1 := cellb a1 hE; have a2 := cellb a2 hE; have a3 := cellb a3 hE; have b0 := cellb b0 hE; have b1 := cellb b1 hE; have b2 := cellb b2 hE; have b3 := cellb b3 hE; (try dsimp only); go_simp); (try with_reducible rfl)
  try simp only [Act.put, List.setIfInBounds_toArray, List.set_cons_zero, List.set_cons_succ]
  refine wpAnyE_take (i := 13) (oi := { dst := some 18, op := Op.fieldAddr 68 (Operand.tmp 3) 1, type := 0, pos := "harmonic.go:93", after := #[], guard := none }) (v := ?_) rfl (by kernel_rfl) (by kernel_rfl) (by kernel_rfl) (by kernel_rfl) (fun _ _ _ h => h) (Or.inl ⟨by rfl, ?_⟩) ?_
  rotate_left
  · (intro w hE; have a0 := cellb a0 hE; have a1 := cellb a1 hE; have a2 := cellb a2 hE; have a3 := cellb a3 hE; have b0 := cellb b0 hE; have b1 := cellb b1 hE; have b2 := cellb b2 hE; have b3 := cellb b3 hE; (try dsimp only); go_simp); (try with_reducible rfl)
  try simp only [Act.put, List.setIfInBounds_toArray, List.set_cons_zero, List.set_cons_succ]
  refine wpAnyE_take (i := 14) (oi := { dst := some 19, op := Op.load 66 (Operand.tmp 18), type := 66, pos := "harmonic.go:93", after := #[{ on := 13, ground := Ground.data }], guard := none }) (v := ?_) rfl (by kernel_rfl) (by kernel_rfl) (by kernel_rfl) (by kernel_rfl) (fun _ _ _ h => h) (Or.inl ⟨by rfl, ?_⟩) ?_
  rotate_left
  · (intro w hE; have a0 := cellb a0 hE; have a1 := cellb a1 hE; have a2 := cellb a2 hE; have a3 := cellb a3 hE; have b0 := cellb b0 hE; have b1 := cellb b1 hE; have b2 := cellb b2 hE; have b3 := cellb b3 hE; (try dsimp only); go_simp); (try with_reducible rfl)
  try simp only [Act.put, List.setIfInBounds_toArray, List.set_cons_zero, List.set_cons_succ]
  refine wpAnyE_take (i := 16) (oi := { dst := some 21, op := Op.fieldAddr 68 (Operand.tmp 2) 1, type := 0, pos := "harmonic.go:93", after := #[], guard := none }) (v := ?_) rfl (by kernel_rfl) (by kernel_rfl) (by kernel_rfl) (by kernel_rfl) (fun _ _ _ h => h) (Or.inl ⟨by rfl, ?_⟩) ?_
  rotate_left
  · (intro w hE; have a0 := cellb a0 hE; have a1 := cellb a1 hE; have a2 := cellb a2 hE; have a3 := cellb a3 hE; have b0 := cellb b0 hE; have b1 := cellb b1 hE; have b2 := cellb b2 hE; have b3 := cellb b3 hE; (try dsimp only); go_simp); (try with_reducible rfl)
  try simp only [Act.put, List.setIfInBounds_toArray, List.set_cons_zero, List.set_cons_succ]
  refine wpAnyE_take (i := 17) (oi := { dst := some 22, op := Op.load 66 (Operand.tmp 21), type := 66, pos := "harmonic.go:93", after := #[{ on := 16, ground := Ground.data }], guard := none }) (v := ?_) rfl (by kernel_rfl) (by kernel_rfl) (by kernel_rfl) (by kernel_rfl) (fun _ _ _ h => h) (Or.inl ⟨by rfl, ?_⟩) ?_
  rotate_left
  · (intro w hE; have a0 := cellb a0 hE; have a1 := cellb a1 hE; have a2 := cellb a2 hE; have a3 := cellb a3 hE; have b0 := cellb b0 hE; have b1 := cellb b1 hE; have b2 := cellb b2 hE; have b3 := cellb b3 hE; (try dsimp only); go_simp); (try with_reducible rfl)
  try simp only [Act.put, List.setIfInBounds_toArray, List.set_cons_zero, List.set_cons_succ]
  refine wpAnyE_take (i := 18) (oi := { dst := some 23, op := Op.fieldAddr 68 (Operand.tmp 3) 0, type := 0, pos := "harmonic.go:93", after := #[], guard := none }) (v := ?_) rfl (by kernel_rfl) (by kernel_rfl) (by kernel_rfl) (by kernel_rfl) (fun _ _ _ h => h) (Or.inl ⟨by rfl, ?_⟩) ?_
  rotate_left
  · (intro w hE; have a0 := cellb a0 hE; have a1 := cellb a1 hE; have a2 := cellb a2 hE; have a3 := cellb a3 hE; have b0 := cellb b0 hE; have b1 := cellb b1 hE; have b2 := cellb b2 hE; have b3 := cellb b3 hE; (try dsimp only); go_simp); (try with_reducible rfl)
  try simp only [Act.put, List.setIfInBounds_toArray, List.set_cons_zero, List.set_cons_succ]
  refine wpAnyE_take (i := 19) (oi := { dst := some 24, op := Op.load 66 (Operand.tmp 23), type := 66, pos := "harmonic.go:93", after := #[{ on := 18, ground := Ground.data }], guard := none }) (v := ?_) rfl (by kernel_rfl) (by kernel_rfl) (by kernel_rfl) (by kernel_rfl) (fun _ _ _ h => h) (Or.inl ⟨by rfl, ?_⟩) ?_
  rotate_left
  · (intro w hE; have a0 := cellb a0 hE; have a1 := cellb a1 hE; have a2 := cellb a2 hE; have a3 := cellb a3 hE; have b0 := cellb b0 hE; have b1 := cellb b1 hE; have b2 := cellb b2 hE; have b3 := cellb b3 hE; (try dsimp only); go_simp); (try with_reducible rfl)
  try simp only [Act.put, List.setIfInBounds_toArray, List.set_cons_zero, List.set_cons_succ]
  refine wpAnyE_call (i := 4) (oi := { dst := some 9, op := Op.call { callee := Callee.value (Operand.func 80), args := #[Operand.tmp 6, Operand.tmp 8], argTypes := #[66, 66] }, type := 66, pos := "harmonic.go:93", after := #[{ on := 1, ground := Ground.data }, { on := 3, ground := Ground.data }], guard := none }) (fun w hE => timesE' x0 x1 y0 y1 w) rfl (by kernel_rfl) (by kernel_rfl) (by kernel_rfl) (by kernel_rfl) (fun _ _ _ h => h) (by rfl) (fun w hE => by (try dsimp only); go_simp) ?_
  try simp only [Act.put, List.setIfInBounds_toArray, List.set_cons_zero, List.set_cons_succ]
  refine wpAnyE_call (i := 9) (oi := { dst := some 14, op := Op.call { callee := Callee.value (Operand.func 80), args := #[Operand.tmp 11, Operand.tmp 13], argTypes := #[66, 66] }, type := 66, pos := "harmonic.go:93", after := #[{ on := 6, ground := Ground.data }, { on := 8, ground := Ground.data }, { on := 4, ground := Ground.chain }], guard := none }) (fun w hE => timesE' x2 x3 y2 y3 w) rfl (by kernel_rfl) (by kernel_rfl) (by kernel_rfl) (by kernel_rfl) (fun _ _ _ h => h) (by rfl) (fun w hE => by (try dsimp only); go_simp) ?_
  try simp only [Act.put, List.setIfInBounds_toArray, List.set_cons_zero, List.set_cons_succ]
  refine wpAnyE_call (i := 10) (oi := { dst := some 15, op := Op.call { callee := Callee.value (Operand.func 114), args := #[Operand.tmp 9, Operand.tmp 14], argTypes := #[66, 66] }, type := 66, pos := "harmonic.go:93", after := #[{ on := 4, ground := Ground.data }, { on := 9, ground := Ground.data }, { on := 9, ground := Ground.chain }], guard := none }) (fun w hE => lessE_any (eiA x0 x1 y0 y1) (eiB x0 x1 y0 y1) (eiA x2 x3 y2 y3) (eiB x2 x3 y2 y3) w) rfl (by kernel_rfl) (by kernel_rfl) (by kernel_rfl) (by kernel_rfl) (fun _ _ _ h => h) (by rfl) (fun w hE => by (try dsimp only); go_simp) ?_
  try simp only [Act.put, List.setIfInBounds_toArray, List.set_cons_zero, List.set_cons_succ]
  refine wpAnyE_call (i := 15) (oi := { dst := some 20, op := Op.call { callee := Callee.value (Operand.func 80), args := #[Operand.tmp 17, Operand.tmp 19], argTypes := #[66, 66] }, type := 66, pos := "harmonic.go:93", after := #[{ on := 12, ground := Ground.data }, { on := 14, ground := Ground.data }, { on := 10, ground := Ground.chain }], guard := none }) (fun w hE => timesE' x0 x1 y2 y3 w) rfl (by kernel_rfl) (by kernel_rfl) (by kernel_rfl) (by kernel_rfl) (fun _ _ _ h => h) (by rfl) (fun w hE => by (try dsimp only); go_simp) ?_
  try simp only [Act.put, List.setIfInBounds_toArray, List.set_cons_zero, List.set_cons_succ]
  refine wpAnyE_call (i := 20) (oi := { dst := some 25, op := Op.call { callee := Callee.value (Operand.func 80), args := #[Operand.tmp 22, Operand.tmp 24], argTypes := #[66, 66] }, type := 66, pos := "harmonic.go:93", after := #[{ on := 17, ground := Ground.data }, { on := 19, ground := Ground.data }, { on := 15, ground := Ground.chain }], guard := none }) (fun w hE => timesE' x2 x3 y0 y1 w) rfl (by kernel_rfl) (by kernel_rfl) (by kernel_rfl) (by kernel_rfl) (fun _ _ _ h => h) (by rfl) (fun w hE => by (try dsimp only); go_simp) ?_
  try simp only [Act.put, List.setIfInBounds_toArray, List.set_cons_zero, List.set_cons_succ]
  refine wpAnyE_call (i := 21) (oi := { dst := some 26, op := Op.call { callee := Callee.value (Operand.func 79), args := #[Operand.tmp 20, Operand.tmp 25], argTypes := #[66, 66] }, type := 66, pos := "harmonic.go:93", after := #[{ on := 15, ground := Ground.data }, { on := 20, ground := Ground.data }, { on := 20, ground := Ground.chain }], guard := none }) (fun w hE => plusE_any (eiA x0 x1 y2 y3) (eiB x0 x1 y2 y3) (eiA x2 x3 y0 y1) (eiB x2 x3 y0 y1) w) rfl (by kernel_rfl) (by kernel_rfl) (by kernel_rfl) (by kernel_rfl) (fun _ _ _ h => h) (by rfl) (fun w hE => by (try dsimp only); go_simp) ?_
  try simp only [Act.put, List.setIfInBounds_toArray, List.set_cons_zero, List.set_cons_succ]
  refine wpAnyE_take (i := 22) (oi := { dst := some 27, op := Op.build 68 #[(0, Operand.tmp 15), (1, Operand.tmp 26)], type := 68, pos := "harmonic.go:93", after := #[{ on := 10, ground := Ground.data }, { on := 21, ground := Ground.data }], guard := none }) (v := ?_) rfl (by kernel_rfl) (by kernel_rfl) (by kernel_rfl) (by kernel_rfl) (fun _ _ _ h => h) (Or.inl ⟨by rfl, ?_⟩) ?_
  rotate_left
  · (intro w hE; have a0 := cellb a0 hE; have a1 := cellb a1 hE; have a2 := cellb a2 hE; have a3 := cellb a3 hE; have b0 := cellb b0 hE; have b1 := cellb b1 hE; have b2 := cellb b2 hE; have b3 := cellb b3 hE; (try dsimp only); go_simp); (try with_reducible rfl)
  try simp only [Act.put, List.setIfInBounds_toArray, List.set_cons_zero, List.set_cons_succ]
  refine wpAnyE_one (i := 23) (o := { dst := none, op := Op.store 68 (Operand.tmp 4) (Operand.tmp 27), type := 0, pos := "harmonic.go:93", after := #[{ on := 22, ground := Ground.data }, { on := 21, ground := Ground.chain }, { on := 0, ground := Ground.phase }, { on := 1, ground := Ground.phase }, { on := 2, ground := Ground.phase }, { on := 3, ground := Ground.phase }, { on := 4, ground := Ground.phase }, { on := 5, ground := Ground.phase }, { on := 6, ground := Ground.phase }, { on := 7, ground := Ground.phase }, { on := 8, ground := Ground.phase }, { on := 9, ground := Ground.phase }, { on := 10, ground := Ground.phase }, { on := 11, ground := Ground.phase }, { on := 12, ground := Ground.phase }, { on := 13, ground := Ground.phase }, { on := 14, ground := Ground.phase }, { on := 15, ground := Ground.phase }, { on := 16, ground := Ground.phase }, { on := 17, ground := Ground.phase }, { on := 18, ground := Ground.phase }, { on := 19, ground := Ground.phase }, { on := 20, ground := Ground.phase }, { on := 21, ground := Ground.phase }, { on := 22, ground := Ground.phase }], guard := none }) (by kernel_rfl) rfl (fun wy1 hE K hK => ?_)
  have a0 := cellb a0 hE
  have a1 := cellb a1 hE
  have a2 := cellb a2 hE
  have a3 := cellb a3 hE
  have b0 := cellb b0 hE
  have b1 := cellb b1 hE
  have b2 := cellb b2 hE
  have b3 := cellb b3 hE
  have i3 := i3.carry hE
  have hbz1 := bthen hbz hE
  clear hE
  have c0 := i3.cell (j := 0) (v := .int .i64 0) rfl
  have c1 := i3.cell (j := 1) (v := .int .i64 0) rfl
  have c2 := i3.cell (j := 2) (v := .int .i64 0) rfl
  have c3 := i3.cell (j := 3) (v := .int .i64 0) rfl
  have f0 := i3.frozen 0
  have f1 := i3.frozen 1
  have f2 := i3.frozen 2
  have f3 := i3.frozen 3
  go_simp
  obtain ⟨wx1, hwz⟩ : ∃ v, v = ((((wy1.setCell ⟨w.heap.size + 1 + 1, 0, none⟩ (.int .i64 (wrap64 (eiA x0 x1 y0 y1 - eiA x2 x3 y2 y3)))).setCell ⟨w.heap.size + 1 + 1, 1, none⟩ (.int .i64 (wrap64 (eiB x0 x1 y0 y1 - eiB x2 x3 y2 y3)))).setCell ⟨w.heap.size + 1 + 1, 2, none⟩ (.int .i64 (wrap64 (eiA x0 x1 y2 y3 + eiA x2 x3 y0 y1)))).setCell ⟨w.heap.size + 1 + 1, 3, none⟩ (.int .i64 (wrap64 (eiB x0 x1 y2 y3 + eiB x2 x3 y0 y1)))) := ⟨_, rfl⟩
  rw [← hwz]
  have hcz1 : Below w.heap.size w wx1 := by rw [hwz]; exact ((((hbz1.setCell (by simp; try omega) _).setCell (by simp; try omega) _).setCell (by simp; try omega) _).setCell (by simp; try omega) _)
  have i3 := ((((i3.set 0 (.int .i64 (wrap64 (eiA x0 x1 y0 y1 - eiA x2 x3 y2 y3)))).set 1 (.int .i64 (wrap64 (eiB x0 x1 y0 y1 - eiB x2 x3 y2 y3)))).set 2 (.int .i64 (wrap64 (eiA x0 x1 y2 y3 + eiA x2 x3 y0 y1)))).set 3 (.int .i64 (wrap64 (eiB x0 x1 y2 y3 + eiB x2 x3 y0 y1))))
  rw [← hwz] at i3
  clear hwz
  refine hK _ _ (fun h => absurd rfl h) ?_
  clear hK K
  try simp only [Act.put, List.setIfInBounds_toArray, List.set_cons_zero, List.set_cons_succ]
  refine wpAnyE_done (by kernel_rfl) (fun wy2 hE => ?_) _
  have hbz2 := bthen hcz1 hE
  have i3 := i3.carry hE
  clear hE
  have hq := hbz2
  have z0 := i3.cell (j := 0) (v := .int .i64 (wrap64 (eiA x0 x1 y0 y1 - eiA x2 x3 y2 y3))) rfl
  have z1 := i3.cell (j := 1) (v := .int .i64 (wrap64 (eiB x0 x1 y0 y1 - eiB x2 x3 y2 y3))) rfl
  have z2 := i3.cell (j := 2) (v := .int .i64 (wrap64 (eiA x0 x1 y2 y3 + eiA x2 x3 y0 y1))) rfl
  have z3 := i3.cell (j := 3) (v := .int .i64 (wrap64 (eiB x0 x1 y2 y3 + eiB x2 x3 y0 y1))) rfl
  go_wp2_with fail
  exact bodyPost_ret (v := .agg #[.int .i64 (wrap64 (eiA x0 x1 y0 y1 - eiA x2 x3 y2 y3)), .int .i64 (wrap64 (eiB x0 x1 y0 y1 - eiB x2 x3 y2 y3)), .int .i64 (wrap64 (eiA x0 x1 y2 y3 + eiA x2 x3 y0 y1)), .int .i64 (wrap64 (eiB x0 x1 y2 y3 + eiB x2 x3 y0 y1))]) (by simp [results, Tryz.f111, go_sem, z0, z1, z2, z3]) rfl ⟨rfl, hq⟩

theorem timesC_any (x0 x1 x2 x3 y0 y1 y2 y3 : Int) (w : World) :
    Calls Tryz.prog 111 #[.agg #[.int .i64 x0, .int .i64 x1, .int .i64 x2, .int .i64 x3], .agg #[.int .i64 y0, .int .i64 y1, .int .i64 y2, .int .i64 y3]] w fun e w' => e = .returned (.agg #[.int .i64 (cy0 x0 x1 x2 x3 y0 y1 y2 y3), .int .i64 (cy1 x0 x1 x2 x3 y0 y1 y2 y3), .int .i64 (cy2 x0 x1 x2 x3 y0 y1 y2 y3), .int .i64 (cy3 x0 x1 x2 x3 y0 y1 y2 y3)]) ∧ Below w.heap.size w w' := timesC_raw x0 x1 x2 x3 y0 y1 y2 y3 w

set_option maxRecDepth 100000 in
set_option maxHeartbeats 1000000 in
theorem quarter_any (x0 x1 x2 x3 : Int) (w : World) :
    Calls Tryz.prog 112 #[.agg #[.int .i64 x0, .int .i64 x1, .int .i64 x2, .int .i64 x3]] w fun e w' => e = .returned (.agg #[.int .i64 (wrap64 (-x2)), .int .i64 (wrap64 (-x3)), .int .i64 x0, .int .i64 x1]) ∧ Below w.heap.size w w' := by
  go_enter Tryz.func112, Tryz.ntmps112
  go_upto_region 1 with fail
  obtain ⟨W1, hW1⟩ : ∃ v, v = World.alloc w (Obj.cells #[.int .i64 x0, .int .i64 x1, .int .i64 x2, .int .i64 x3] 68) := ⟨_, rfl⟩
  have kW1 : Below w.heap.size w W1 := by rw [hW1]; exact below_new _ _
  have iW1 : Blk W1 (w.heap.size) 68 [.int .i64 x0, .int .i64 x1, .int .i64 x2, .int .i64 x3] := by rw [hW1]; exact Blk.new _ _ _
  have sW1 : W1.heap.size = w.heap.size + 1 := by rw [hW1]; simp
  rw [← hW1]
  clear hW1
  obtain ⟨W2, hW2⟩ : ∃ v, v = World.alloc W1 (Obj.cells #[.int .i64 (0), .int .i64 (0), .int .i64 (0), .int .i64 (0)] 68) := ⟨_, rfl⟩
  have kW2 : Below W1.heap.size W1 W2 := by rw [hW2]; exact below_new _ _
  have iW2 : Blk W2 (w.heap.size + 1) 68 [.int .i64 (0), .int .i64 (0), .int .i64 (0), .int .i64 (0)] := by rw [hW2, ← sW1]; exact Blk.new _ _ _
  have sW2 : W2.heap.size = w.heap.size + 1 + 1 := by rw [hW2]; simp [sW1]
  rw [← hW2]
  clear hW2
  clear sW1 sW2
  have i1 := (iW1.carry kW2)
  have i2 := iW2
  have hB : Below w.heap.size w W2 := (bthen kW1 kW2)
  clear iW1 kW1 iW2 kW2
  have c0 := i1.cell (j := 0) (v := .int .i64 x0) rfl
  have c1 := i1.cell (j := 1) (v := .int .i64 x1) rfl
  have c2 := i1.cell (j := 2) (v := .int .i64 x2) rfl
  have c3 := i1.cell (j := 3) (v := .int .i64 x3) rfl
  have c4 := i2.cell (j := 0) (v := .int .i64 (0)) rfl
  have c5 := i2.cell (j := 1) (v := .int .i64 (0)) rfl
  have c6 := i2.cell (j := 2) (v := .int .i64 (0)) rfl
  have c7 := i2.cell (j := 3) (v := .int .i64 (0)) rfl
  have f0 := i2.frozen 0
  have f1 := i2.frozen 1
  have f2 := i2.frozen 2
  have f3 := i2.frozen 3
  go_wp2_with fail
  have h9 := ((((i2.set 0 (.int .i64 (wrap64 (-x2)))).set 1 (.int .i64 (wrap64 (-x3)))).set 2 (.int .i64 x0)).set 3 (.int .i64 x1))
  have z0 := h9.cell (j := 0) (v := .int .i64 (wrap64 (-x2))) rfl
  have z1 := h9.cell (j := 1) (v := .int .i64 (wrap64 (-x3))) rfl
  have z2 := h9.cell (j := 2) (v := .int .i64 x0) rfl
  have z3 := h9.cell (j := 3) (v := .int .i64 x1) rfl
  exact bodyPost_ret (v := .agg #[.int .i64 (wrap64 (-x2)), .int .i64 (wrap64 (-x3)), .int .i64 x0, .int .i64 x1]) (by simp [results, Tryz.f112, go_sem, z0, z1, z2, z3]) rfl ⟨rfl, ((((hB.setCell (by simp; try omega) _).setCell (by simp; try omega) _).setCell (by simp; try omega) _).setCell (by simp; try omega) _)⟩

end Go.Proofs.YtpkaoechbmbolaaGreatDoor

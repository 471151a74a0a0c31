/- The package harmonic: Product, Strength, Sign. -/
import Derived.Test.YtfeajpkjjlddlaaGreatDoorHarC
namespace Go.Proofs.YtfeajpkjjlddlaaGreatDoor
set_option linter.unusedSimpArgs false
set_option linter.unusedVariables false
open Go.RowKit

def prodCE (x0 x1 x2 x3 y0 y1 y2 y3 : Int) : Int := firstE [cycE x0 x1 x2 x3, cycE y0 y1 y2 y3]
/-- four numbers, or none if there is an error. -/
def cyOr (e a b c d : Int) : Value := if e = 0 then .agg #[.int .i64 a, .int .i64 b, .int .i64 c, .int .i64 d] else .agg #[.int .i64 0, .int .i64 0, .int .i64 0, .int .i64 0]

set_option maxRecDepth 100000 in
set_option maxHeartbeats 2000000 in
theorem ProductH_any (x0 x1 x2 x3 y0 y1 y2 y3 : Int) (w : World) :
    Calls Tryz.prog 17 #[.agg #[.int .i64 x0, .int .i64 x1, .int .i64 x2, .int .i64 x3], .agg #[.int .i64 y0, .int .i64 y1, .int .i64 y2, .int .i64 y3]] w fun e w' =>
      e = .returned (.tuple #[cyOr (prodCE x0 x1 x2 x3 y0 y1 y2 y3) (cy0 x0 x1 x2 x3 y0 y1 y2 y3) (cy1 x0 x1 x2 x3 y0 y1 y2 y3) (cy2 x0 x1 x2 x3 y0 y1 y2 y3) (cy3 x0 x1 x2 x3 y0 y1 y2 y3), .int .i64 (prodCE x0 x1 x2 x3 y0 y1 y2 y3)]) ∧ Below w.heap.size w w' := by
  have TX := Lib.hid (fun W => checkC_any x0 x1 x2 x3 W)
  have TY := Lib.hid (fun W => checkC_any y0 y1 y2 y3 W)
  have TM := Lib.hid (fun W => timesC_any x0 x1 x2 x3 y0 y1 y2 y3 W)
  rw [prodCE]
  generalize cycE x0 x1 x2 x3 = ex at TX ⊢
  generalize cycE y0 y1 y2 y3 = ey at TY ⊢
  generalize cy0 x0 x1 x2 x3 y0 y1 y2 y3 = m0 at TM ⊢
  generalize cy1 x0 x1 x2 x3 y0 y1 y2 y3 = m1 at TM ⊢
  generalize cy2 x0 x1 x2 x3 y0 y1 y2 y3 = m2 at TM ⊢
  generalize cy3 x0 x1 x2 x3 y0 y1 y2 y3 = m3 at TM ⊢
  obtain ⟨E, hE⟩ : ∃ E, E = firstE [ex, ey] := ⟨_, rfl⟩
  rw [← hE]
  have TF := Lib.hid (fun (u : Value) (W : World) (h : Ints W u [ex, ey]) => firstH_any u [ex, ey] W (by simp [maxLen]) h)
  rw [← hE] at TF
  clear hE
  go_enter Tryz.func17, Tryz.ntmps17
  go_upto_region 1 with fail
  obtain ⟨W1, hW1⟩ : ∃ v, v = World.alloc w (Obj.cells #[.int .i64 x0, .int .i64 x1, .int .i64 x2, .int .i64 x3] 34) := ⟨_, rfl⟩
  have kW1 : Below w.heap.size w W1 := by rw [hW1]; exact below_new _ _
  have iW1 : Blk W1 (w.heap.size) 34 [.int .i64 x0, .int .i64 x1, .int .i64 x2, .int .i64 x3] := by rw [hW1]; exact Blk.new _ _ _
  have sW1 : W1.heap.size = w.heap.size + 1 := by rw [hW1]; simp
  rw [← hW1]
  clear hW1
  obtain ⟨W2, hW2⟩ : ∃ v, v = World.alloc W1 (Obj.cells #[.int .i64 y0, .int .i64 y1, .int .i64 y2, .int .i64 y3] 34) := ⟨_, rfl⟩
  have kW2 : Below W1.heap.size W1 W2 := by rw [hW2]; exact below_new _ _
  have iW2 : Blk W2 (w.heap.size + 1) 34 [.int .i64 y0, .int .i64 y1, .int .i64 y2, .int .i64 y3] := by rw [hW2, ← sW1]; exact Blk.new _ _ _
  have sW2 : W2.heap.size = w.heap.size + 1 + 1 := by rw [hW2]; simp [sW1]
  rw [← hW2]
  clear hW2
  obtain ⟨W3, hW3⟩ : ∃ v, v = World.alloc W2 (Obj.cells #[.int .i64 0, .int .i64 0, .int .i64 0, .int .i64 0] 34) := ⟨_, rfl⟩
  have kW3 : Below W2.heap.size W2 W3 := by rw [hW3]; exact below_new _ _
  have iW3 : Blk W3 (w.heap.size + 1 + 1) 34 [.int .i64 0, .int .i64 0, .int .i64 0, .int .i64 0] := by rw [hW3, ← sW2]; exact Blk.new _ _ _
  have sW3 : W3.heap.size = w.heap.size + 1 + 1 + 1 := by rw [hW3]; simp [sW2]
  rw [← hW3]
  clear hW3
  clear sW1 sW2 sW3
  have i1 := (iW1.carry kW2).carry kW3
  have i2 := iW2.carry kW3
  have i3 := iW3
  have hB := bthen kW1 (bthen kW2 kW3)
  clear iW1 kW1 iW2 kW2 iW3 kW3
  have a0 := i1.cell (j := 0) (v := .int .i64 x0) rfl
  have a1 := i1.cell (j := 1) (v := .int .i64 x1) rfl
  have a2 := i1.cell (j := 2) (v := .int .i64 x2) rfl
  have a3 := i1.cell (j := 3) (v := .int .i64 x3) rfl
  have b0 := i2.cell (j := 0) (v := .int .i64 y0) rfl
  have b1 := i2.cell (j := 1) (v := .int .i64 y1) rfl
  have b2 := i2.cell (j := 2) (v := .int .i64 y2) rfl
  have b3 := i2.cell (j := 3) (v := .int .i64 y3) rfl
  refine wp_region_E 6 (by kernel_rfl) ?_
  obtain ⟨wz, hwz⟩ : ∃ v, v = W3.drew := ⟨_, rfl⟩
  rw [← hwz]
  have hlz : Below W3.heap.size W3 wz := by rw [hwz]; exact (Below.refl _ _).drew
  have hbz := bthen hB hlz
  have a0 := cellb a0 hlz
  have a1 := cellb a1 hlz
  have a2 := cellb a2 hlz
  have a3 := cellb a3 hlz
  have b0 := cellb b0 hlz
  have b1 := cellb b1 hlz
  have b2 := cellb b2 hlz
  have b3 := cellb b3 hlz
  have i3 := i3.carry hlz
  clear hwz hlz
  refine wpAnyE_take (i := 0) (oi := { dst := some 7, op := Op.load 34 (Operand.tmp 2), type := 34, pos := "harmonic.go:142", after := #[], guard := none }) (v := ?_) rfl (by kernel_rfl) (by kernel_rfl) (by kernel_rfl) (by kernel_rfl) (fun _ _ _ h => h) (Or.inl ⟨by rfl, ?_⟩) ?_
  rotate_left
  · (intro w hE; have a0 := cellb a0 hE; have a1 := cellb a1 hE; have a2 := cellb a2 hE; have a3 := cellb a3 hE; have b0 := cellb b0 hE; have b1 := cellb b1 hE; have b2 := cellb b2 hE; have b3 := cellb b3 hE; (try dsimp only); go_simp); (try with_reducible rfl)
  try simp only [Act.put, List.setIfInBounds_toArray, List.set_cons_zero, List.set_cons_succ]
  refine wpAnyE_take (i := 2) (oi := { dst := some 9, op := Op.load 34 (Operand.tmp 3), type := 34, pos := "harmonic.go:142", after := #[], guard := none }) (v := ?_) rfl (by kernel_rfl) (by kernel_rfl) (by kernel_rfl) (by kernel_rfl) (fun _ _ _ h => h) (Or.inl ⟨by rfl, ?_⟩) ?_
  rotate_left
  · (intro w hE; have a0 := cellb a0 hE; have a1 := cellb a1 hE; have a2 := cellb a2 hE; have a3 := cellb a3 hE; have b0 := cellb b0 hE; have b1 := cellb b1 hE; have b2 := cellb b2 hE; have b3 := cellb b3 hE; (try dsimp only); go_simp); (try with_reducible rfl)
  try simp only [Act.put, List.setIfInBounds_toArray, List.set_cons_zero, List.set_cons_succ]
  refine wpAnyE_call (i := 1) (oi := { dst := some 8, op := Op.call { callee := Callee.value (Operand.func 39), args := #[Operand.tmp 7], argTypes := #[34] }, type := 31, pos := "harmonic.go:142", after := #[{ on := 0, ground := Ground.data }], guard := none }) (fun w hE => TX.out w) rfl (by kernel_rfl) (by kernel_rfl) (by kernel_rfl) (by kernel_rfl) (fun _ _ _ h => h) (by rfl) (fun w hE => by (try dsimp only); go_simp) ?_
  try simp only [Act.put, List.setIfInBounds_toArray, List.set_cons_zero, List.set_cons_succ]
  refine wpAnyE_call (i := 3) (oi := { dst := some 10, op := Op.call { callee := Callee.value (Operand.func 39), args := #[Operand.tmp 9], argTypes := #[34] }, type := 31, pos := "harmonic.go:142", after := #[{ on := 2, ground := Ground.data }, { on := 1, ground := Ground.chain }], guard := none }) (fun w hE => TY.out w) rfl (by kernel_rfl) (by kernel_rfl) (by kernel_rfl) (by kernel_rfl) (fun _ _ _ h => h) (by rfl) (fun w hE => by (try dsimp only); go_simp) ?_
  try simp only [Act.put, List.setIfInBounds_toArray, List.set_cons_zero, List.set_cons_succ]
  refine wpAnyE_one (i := 4) (o := { dst := some 11, op := Op.buildSlice 90 2 #[(0, Operand.tmp 8), (1, Operand.tmp 10)], type := 90, pos := "harmonic.go:142", after := #[{ on := 1, ground := Ground.data }, { on := 3, ground := Ground.data }], guard := none }) (by kernel_rfl) rfl (fun wy1 hE K hK => ?_)
  have a0 := cellb a0 hE
  have a1 := cellb a1 hE
  have a2 := cellb a2 hE
  have a3 := cellb a3 hE
  have b0 := cellb b0 hE
  have b1 := cellb b1 hE
  have b2 := cellb b2 hE
  have b3 := cellb b3 hE
  have i3 := i3.carry hE
  have hbz1 := bthen hbz hE
  clear hE
  go_simp
  obtain ⟨wx1, hwz⟩ : ∃ v, v = wy1.alloc (Obj.cells #[.int .i64 ex, .int .i64 ey] 31) := ⟨_, rfl⟩
  rw [← hwz]
  have hl : Below wy1.heap.size wy1 wx1 := by rw [hwz]; exact below_new _ _
  have hcz1 := bthen hbz1 hl
  have iN : BlkI wx1 wy1.heap.size 31 [ex, ey] := by rw [hwz]; exact Blk.new _ _ _
  generalize wy1.heap.size = G at iN ⊢
  have a0 := cellb a0 hl
  have a1 := cellb a1 hl
  have a2 := cellb a2 hl
  have a3 := cellb a3 hl
  have b0 := cellb b0 hl
  have b1 := cellb b1 hl
  have b2 := cellb b2 hl
  have b3 := cellb b3 hl
  have i3 := i3.carry hl
  clear hwz
  refine hK _ _ (fun _ => hl) ?_
  clear hK K hl
  try simp only [Act.put, List.setIfInBounds_toArray, List.set_cons_zero, List.set_cons_succ]
  refine wpAnyE_call (i := 5) (oi := { dst := some 12, op := Op.call { callee := Callee.value (Operand.func 37), args := #[Operand.tmp 11], argTypes := #[90] }, type := 31, pos := "harmonic.go:142", after := #[{ on := 4, ground := Ground.data }, { on := 3, ground := Ground.chain }], guard := none }) (fun w hE => ofPure (TF.out _ w ((BlkI.ints iN rfl).carry hE))) rfl (by kernel_rfl) (by kernel_rfl) (by kernel_rfl) (by kernel_rfl) (fun _ _ _ h => h) (by rfl) (fun w hE => by (try dsimp only); go_simp) ?_
  try simp only [Act.put, List.setIfInBounds_toArray, List.set_cons_zero, List.set_cons_succ]
  refine wpAnyE_one (i := 6) (o := { dst := some 6, op := Op.assign (Operand.tmp 12), type := 31, pos := "harmonic.go:142", after := #[{ on := 5, ground := Ground.data }, { on := 5, ground := Ground.chain }, { on := 0, ground := Ground.phase }, { on := 1, ground := Ground.phase }, { on := 2, ground := Ground.phase }, { on := 3, ground := Ground.phase }, { on := 4, ground := Ground.phase }, { on := 5, ground := Ground.phase }], guard := none }) (by kernel_rfl) rfl (fun wy2 hE K hK => ?_)
  have a0 := cellb a0 hE
  have a1 := cellb a1 hE
  have a2 := cellb a2 hE
  have a3 := cellb a3 hE
  have b0 := cellb b0 hE
  have b1 := cellb b1 hE
  have b2 := cellb b2 hE
  have b3 := cellb b3 hE
  have i3 := i3.carry hE
  have hbz2 := bthen hcz1 hE
  go_simp
  refine hK _ _ (fun _ => Below.refl _ _) ?_
  clear hK K hE
  try simp only [Act.put, List.setIfInBounds_toArray, List.set_cons_zero, List.set_cons_succ]
  refine wpAnyE_done (by kernel_rfl) (fun wy3 hE => ?_) _
  have hbz3 := bthen hbz2 hE
  have a0 := cellb a0 hE
  have a1 := cellb a1 hE
  have a2 := cellb a2 hE
  have a3 := cellb a3 hE
  have b0 := cellb b0 hE
  have b1 := cellb b1 hE
  have b2 := cellb b2 hE
  have b3 := cellb b3 hE
  have i3 := i3.carry hE
  clear hE
  have hB := hbz3
  obtain ⟨W5, hW5⟩ : ∃ v, v = wy3 := ⟨_, rfl⟩
  rw [← hW5] at hB a0 a1 a2 a3 b0 b1 b2 b3 i3 ⊢
  clear hW5
  have c0 := i3.cell (j := 0) (v := .int .i64 0) rfl
  have c1 := i3.cell (j := 1) (v := .int .i64 0) rfl
  have c2 := i3.cell (j := 2) (v := .int .i64 0) rfl
  have c3 := i3.cell (j := 3) (v := .int .i64 0) rfl
  have f0 := i3.frozen 0
  have f1 := i3.frozen 1
  have f2 := i3.frozen 2
  have f3 := i3.frozen 3
  by_cases he : E = 0
  · subst he
    clear c0 c1 c2 c3 f0 f1 f2 f3
    go_wp2_with fail
    refine (TM.out W5).mono ?_
    rintro e W6 ⟨rfl, hl⟩
    replace i3 := i3.carry hl
    replace hB := bthen hB hl
    clear hl a0 a1 a2 a3 b0 b1 b2 b3
    have c0 := i3.cell (j := 0) (v := .int .i64 0) rfl
    have c1 := i3.cell (j := 1) (v := .int .i64 0) rfl
    have c2 := i3.cell (j := 2) (v := .int .i64 0) rfl
    have c3 := i3.cell (j := 3) (v := .int .i64 0) rfl
    have f0 := i3.frozen 0
    have f1 := i3.frozen 1
    have f2 := i3.frozen 2
    have f3 := i3.frozen 3
    go_wp2_with fail
    have h9 := (((i3.set 0 (.int .i64 m0)).set 1 (.int .i64 m1)).set 2 (.int .i64 m2)).set 3 (.int .i64 m3)
    have z0 := h9.cell (j := 0) (v := .int .i64 m0) rfl
    have z1 := h9.cell (j := 1) (v := .int .i64 m1) rfl
    have z2 := h9.cell (j := 2) (v := .int .i64 m2) rfl
    have z3 := h9.cell (j := 3) (v := .int .i64 m3) rfl
    exact bodyPost_ret (v := .tuple #[.agg #[.int .i64 m0, .int .i64 m1, .int .i64 m2, .int .i64 m3], .int .i64 0]) (by simp [results, Tryz.f17, go_sem, z0, z1, z2, z3]) rfl ⟨by rw [cyOr, if_pos rfl], (((hB.setCell (by simp; try omega) _).setCell (by simp; try omega) _).setCell (by simp; try omega) _).setCell (by simp; try omega) _⟩
  · have z : (E == 0) = false := by rw [beq_eq_false_iff_ne]; exact he
    have HNE := Lib.hid he
    go_wp2_with fail
    have h9 := (((i3.set 0 (.int .i64 0)).set 1 (.int .i64 0)).set 2 (.int .i64 0)).set 3 (.int .i64 0)
    have z0 := h9.cell (j := 0) (v := .int .i64 0) rfl
    have z1 := h9.cell (j := 1) (v := .int .i64 0) rfl
    have z2 := h9.cell (j := 2) (v := .int .i64 0) rfl
    have z3 := h9.cell (j := 3) (v := .int .i64 0) rfl
    exact bodyPost_ret (v := .tuple #[.agg #[.int .i64 0, .int .i64 0, .int .i64 0, .int .i64 0], .int .i64 E]) (by simp [results, Tryz.f17, go_sem, z0, z1, z2, z3]) rfl ⟨by rw [cyOr, if_neg HNE.out], (((hB.setCell (by simp; try omega) _).setCell (by simp; try omega) _).setCell (by simp; try omega) _).setCell (by simp; try omega) _⟩

end Go.Proofs.YtfeajpkjjlddlaaGreatDoor

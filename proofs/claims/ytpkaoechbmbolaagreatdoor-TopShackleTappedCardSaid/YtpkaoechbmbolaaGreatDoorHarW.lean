/- The package harmonic: edges, sides and points of a polygon. -/
import Derived.Test.YtpkaoechbmbolaaGreatDoorHarV
namespace Go.Proofs.YtpkaoechbmbolaaGreatDoor
set_option linter.unusedSimpArgs false
set_option linter.unusedVariables false
open Go.RowKit

theorem eqGauss (a b c d : Int) (W : World) : Sem.run Tryz.prog (binOp .eql 63 (.agg #[.int .i64 a, .int .i64 b]) (.agg #[.int .i64 c, .int .i64 d])) W = .ok (.bool (a == c && b == d)) W := by
  go_simp
  by_cases h1 : a = c <;> by_cases h2 : b = d <;> simp [h1, h2]
/-- on which side of an edge a point lies. -/
def sideE (x : I4) (p : Int × Int) (den : Int) : Int :=
  wrap64 (wrap64 (wrap64 (x.2.2.1 - x.1) * wrap64 (p.2 - wrap64 (den * x.2.1))) - wrap64 (wrap64 (x.2.2.2 - x.2.1) * wrap64 (p.1 - wrap64 (den * x.1))))
set_option maxRecDepth 100000 in
set_option maxHeartbeats 1000000 in
theorem side_any (x : I4) (p : Int × Int) (den : Int) (w : World) :
    Calls Tryz.prog 59 #[.agg #[.int .i64 x.1, .int .i64 x.2.1, .int .i64 x.2.2.1, .int .i64 x.2.2.2], .agg #[.int .i64 p.1, .int .i64 p.2], .int .i64 den] w fun e w' => e = .returned (.int .i64 (sideE x p den)) ∧ Below w.heap.size w w' := by
  obtain ⟨r, hr⟩ : ∃ r, r = sideE x p den := ⟨_, rfl⟩
  rw [← hr]
  rw [sideE] at hr
  obtain ⟨fr, fi, tr, ti⟩ := x
  obtain ⟨pr, qi⟩ := p
  simp only at hr ⊢
  have HR := Lib.hid hr
  clear hr
  go_enter Tryz.func59, Tryz.ntmps59
  go_upto_region 1 with fail
  obtain ⟨W1, hW1⟩ : ∃ v, v = World.alloc w (Obj.cells #[.int .i64 fr, .int .i64 fi, .int .i64 tr, .int .i64 ti] 122) := ⟨_, rfl⟩
  have kW1 : Below w.heap.size w W1 := by rw [hW1]; exact below_new _ _
  have iW1 : Blk W1 (w.heap.size) 122 [.int .i64 fr, .int .i64 fi, .int .i64 tr, .int .i64 ti] := by rw [hW1]; exact Blk.new _ _ _
  have sW1 : W1.heap.size = w.heap.size + 1 := by rw [hW1]; simp
  rw [← hW1]
  clear hW1
  obtain ⟨W2, hW2⟩ : ∃ v, v = World.alloc W1 (Obj.cells #[.int .i64 pr, .int .i64 qi] 63) := ⟨_, rfl⟩
  have kW2 : Below W1.heap.size W1 W2 := by rw [hW2]; exact below_new _ _
  have iW2 : Blk W2 (w.heap.size + 1) 63 [.int .i64 pr, .int .i64 qi] := by rw [hW2, ← sW1]; exact Blk.new _ _ _
  have sW2 : W2.heap.size = w.heap.size + 1 + 1 := by rw [hW2]; simp [sW1]
  rw [← hW2]
  clear hW2
  have a0 := (iW1.carry kW2).cell (j := 0) (v := .int .i64 fr) rfl
  have a1 := (iW1.carry kW2).cell (j := 1) (v := .int .i64 fi) rfl
  have a2 := (iW1.carry kW2).cell (j := 2) (v := .int .i64 tr) rfl
  have a3 := (iW1.carry kW2).cell (j := 3) (v := .int .i64 ti) rfl
  have b0 := iW2.cell (j := 0) (v := .int .i64 pr) rfl
  have b1 := iW2.cell (j := 1) (v := .int .i64 qi) rfl
  have hB := bthen kW1 kW2
  refine wp_region_E 15 (by kernel_rfl) ?_
  obtain ⟨wz, hwz⟩ : ∃ v, v = W2.drew := ⟨_, rfl⟩
  rw [← hwz]
  have hlz : Below W2.heap.size W2 wz := by rw [hwz]; exact (Below.refl _ _).drew
  have hbz := bthen hB hlz
  have a0 := cellb a0 hlz
  have a1 := cellb a1 hlz
  have a2 := cellb a2 hlz
  have a3 := cellb a3 hlz
  have b0 := cellb b0 hlz
  have b1 := cellb b1 hlz
  clear hwz hlz
  refine wpAnyE_take (i := 0) (oi := { dst := some 9, op := Op.fieldAddr 122 (Operand.tmp 3) 1, type := 0, pos := "filter.go:129", after := #[], guard := none }) (v := ?_) rfl (by kernel_rfl) (by kernel_rfl) (by kernel_rfl) (by kernel_rfl) (fun _ _ _ h => h) (Or.inl ⟨by rfl, ?_⟩) ?_
  rotate_left
  · (intro w hE; have a0 := cellb a0 hE; have a1 := cellb a1 hE; have a2 := cellb a2 hE; have a3 := cellb a3 hE; have b0 := cellb b0 hE; have b1 := cellb b1 hE; (try dsimp only); go_simp); (try with_reducible rfl)
  try simp only [Act.put, List.setIfInBounds_toArray, List.set_cons_zero, List.set_cons_succ]
  refine wpAnyE_take (i := 1) (oi := { dst := some 10, op := Op.fieldAddr 63 (Operand.tmp 9) 0, type := 0, pos := "filter.go:129", after := #[{ on := 0, ground := Ground.data }], guard := none }) (v := ?_) rfl (by kernel_rfl) (by kernel_rfl) (by kernel_rfl) (by kernel_rfl) (fun _ _ _ h => h) (Or.inl ⟨by rfl, ?_⟩) ?_
  rotate_left
  · (intro w hE; have a0 := cellb a0 hE; have a1 := cellb a1 hE; have a2 := cellb a2 hE; have a3 := cellb a3 hE; have b0 := cellb b0 hE; have b1 := cellb b1 hE; (try dsimp only); go_simp); (try with_reducible rfl)
  try simp only [Act.put, List.setIfInBounds_toArray, List.set_cons_zero, List.set_cons_succ]
  refine wpAnyE_take (i := 2) (oi := { dst := some 11, op := Op.load 3 (Operand.tmp 10), type := 3, pos := "filter.go:129", after := #[{ on := 1, ground := Ground.data }], guard := none }) (v := ?_) rfl (by kernel_rfl) (by kernel_rfl) (by kernel_rfl) (by kernel_rfl) (fun _ _ _ h => h) (Or.inl ⟨by rfl, ?_⟩) ?_
  rotate_left
  · (intro w hE; have a0 := cellb a0 hE; have a1 := cellb a1 hE; have a2 := cellb a2 hE; have a3 := cellb a3 hE; have b0 := cellb b0 hE; have b1 := cellb b1 hE; (try dsimp only); go_simp); (try with_reducible rfl)
  try simp only [Act.put, List.setIfInBounds_toArray, List.set_cons_zero, List.set_cons_succ]
  refine wpAnyE_take (i := 3) (oi := { dst := some 12, op := Op.fieldAddr 122 (Operand.tmp 3) 0, type := 0, pos := "filter.go:129", after := #[], guard := none }) (v := ?_) rfl (by kernel_rfl) (by kernel_rfl) (by kernel_rfl) (by kernel_rfl) (fun _ _ _ h => h) (Or.inl ⟨by rfl, ?_⟩) ?_
  rotate_left
  · (intro w hE; have a0 := cellb a0 hE; have a1 := cellb a1 hE; have a2 := cellb a2 hE; have a3 := cellb a3 hE; have b0 := cellb b0 hE; have b1 := cellb b1 hE; (try dsimp only); go_simp); (try with_reducible rfl)
  try simp only [Act.put, List.setIfInBounds_toArray, List.set_cons_zero, List.set_cons_succ]
  refine wpAnyE_take (i := 4) (oi := { dst := some 13, op := Op.fieldAddr 63 (Operand.tmp 12) 0, type := 0, pos := "filter.go:129", after := #[{ on := 3, ground := Ground.data }], guard := none }) (v := ?_) rfl (by kernel_rfl) (by kernel_rfl) (by kernel_rfl) (by kernel_rfl) (fun _ _ _ h => h) (Or.inl ⟨by rfl, ?_⟩) ?_
  rotate_left
  · (intro w hE; have a0 := cellb a0 hE; have a1 := cellb a1 hE; have a2 := cellb a2 hE; have a3 := cellb a3 hE; have b0 := cellb b0 hE; have b1 := cellb b1 hE; (try dsimp only); go_simp); (try with_reducible rfl)
  try simp only [Act.put, List.setIfInBounds_toArray, List.set_cons_zero, List.set_cons_succ]
  refine wpAnyE_take (i := 5) (oi := { dst := some 14, op := Op.load 3 (Operand.tmp 13), type := 3, pos := "filter.go:129", after := #[{ on := 4, ground := Ground.data }], guard := none }) (v := ?_) rfl (by kernel_rfl) (by kernel_rfl) (by kernel_rfl) (by kernel_rfl) (fun _ _ _ h => h) (Or.inl ⟨by rfl, ?_⟩) ?_
  rotate_left
  · (intro w hE; have a0 := cellb a0 hE; have a1 := cellb a1 hE; have a2 := cellb a2 hE; have a3 := cellb a3 hE; have b0 := cellb b0 hE; have b1 := cellb b1 hE; (try dsimp only); go_simp); (try with_reducible rfl)
  try simp only [Act.put, List.setIfInBounds_toArray, List.set_cons_zero, List.set_cons_succ]
  refine wpAnyE_take (i := 6) (oi := { dst := some 15, op := Op.binOp BinOp.sub 3 (Operand.tmp 11) (Operand.tmp 14) 3, type := 3, pos := "filter.go:129", after := #[{ on := 2, ground := Ground.data }, { on := 5, ground := Ground.data }], guard := none }) (v := ?_) rfl (by kernel_rfl) (by kernel_rfl) (by kernel_rfl) (by kernel_rfl) (fun _ _ _ h => h) (Or.inl ⟨by rfl, ?_⟩) ?_
  rotate_left
  · (intro w hE; have a0 := cellb a0 hE; have a1 := cellb a1 hE; have a2 := cellb a2 hE; have a3 := cellb a3 hE; have b0 := cellb b0 hE; have b1 := cellb b1 hE; (try dsimp only); go_simp); (try with_reducible rfl)
  try simp only [Act.put, List.setIfInBounds_toArray, List.set_cons_zero, List.set_cons_succ]
  refine wpAnyE_take (i := 7) (oi := { dst := some 16, op := Op.fieldAddr 122 (Operand.tmp 3) 1, type := 0, pos := "filter.go:129", after := #[{ on := 14, ground := Ground.gcOnly Departure.lateStores }], guard := none }) (v := ?_) rfl (by kernel_rfl) (by kernel_rfl) (by kernel_rfl) (by kernel_rfl) (fun _ _ _ h => h) (Or.inl ⟨by rfl, ?_⟩) ?_
  rotate_left
  · (intro w hE; have a0 := cellb a0 hE; have a1 := cellb a1 hE; have a2 := cellb a2 hE; have a3 := cellb a3 hE; have b0 := cellb b0 hE; have b1 := cellb b1 hE; (try dsimp only); go_simp); (try with_reducible rfl)
  try simp only [Act.put, List.setIfInBounds_toArray, List.set_cons_zero, List.set_cons_succ]
  refine wpAnyE_take (i := 8) (oi := { dst := some 17, op := Op.fieldAddr 63 (Operand.tmp 16) 1, type := 0, pos := "filter.go:129", after := #[{ on := 7, ground := Ground.data }, { on := 14, ground := Ground.gcOnly Departure.lateStores }], guard := none }) (v := ?_) rfl (by kernel_rfl) (by kernel_rfl) (by kernel_rfl) (by kernel_rfl) (fun _ _ _ h => h) (Or.inl ⟨by rfl, ?_⟩) ?_
  rotate_left
  · (intro w hE; have a0 := cellb a0 hE; have a1 := cellb a1 hE; have a2 := cellb a2 hE; have a3 := cellb a3 hE; have b0 := cellb b0 hE; have b1 := cellb b1 hE; (try dsimp only); go_simp); (try with_reducible rfl)
  try simp only [Act.put, List.setIfInBounds_toArray, List.set_cons_zero, List.set_cons_succ]
  refine wpAnyE_take (i := 9) (oi := { dst := some 18, op := Op.load 3 (Operand.tmp 17), type := 3, pos := "filter.go:129", after := #[{ on := 8, ground := Ground.data }, { on := 14, ground := Ground.gcOnly Departure.lateStores }], guard := none }) (v := ?_) rfl (by kernel_rfl) (by kernel_rfl) (by kernel_rfl) (by kernel_rfl) (fun _ _ _ h => h) (Or.inl ⟨by rfl, ?_⟩) ?_
  rotate_left
  · (intro w hE; have a0 := cellb a0 hE; have a1 := cellb a1 hE; have a2 := cellb a2 hE; have a3 := cellb a3 hE; have b0 := cellb b0 hE; have b1 := cellb b1 hE; (try dsimp only); go_simp); (try with_reducible rfl)
  try simp only [Act.put, List.setIfInBounds_toArray, List.set_cons_zero, List.set_cons_succ]
  refine wpAnyE_take (i := 10) (oi := { dst := some 19, op := Op.fieldAddr 122 (Operand.tmp 3) 0, type := 0, pos := "filter.go:129", after := #[{ on := 14, ground := Ground.gcOnly Departure.lateStores }], guard := none }) (v := ?_) rfl (by kernel_rfl) (by kernel_rfl) (by kernel_rfl) (by kernel_rfl) (fun _ _ _ h => h) (Or.inl ⟨by rfl, ?_⟩) ?_
  rotate_left
  · (intro w hE; have a0 := cellb a0 hE; have a1 := cellb a1 hE; have a2 := cellb a2 hE; have a3 := cellb a3 hE; have b0 := cellb b0 hE; have b1 := cellb b1 hE; (try dsimp only); go_simp); (try with_reducible rfl)
  try simp only [Act.put, List.setIfInBounds_toArray, List.set_cons_zero, List.set_cons_succ]
  refine wpAnyE_take (i := 11) (oi := { dst := some 20, op := Op.fieldAddr 63 (Operand.tmp 19) 1, type := 0, pos := "filter.go:129", after := #[{ on := 10, ground := Ground.data }, { on := 14, ground := Ground.gcOnly Departure.lateStores }], guard := none }) (v := ?_) rfl (by kernel_rfl) (by kernel_rfl) (by kernel_rfl) (by kernel_rfl) (fun _ _ _ h => h) (Or.inl ⟨by rfl, ?_⟩) ?_
  rotate_left
  · (intro w hE; have a0 := cellb a0 hE; have a1 := cellb a1 hE; have a2 := cellb a2 hE; have a3 := cellb a3 hE; have b0 := cellb b0 hE; have b1 := cellb b1 hE; (try dsimp only); go_simp); (try with_reducible rfl)
  try simp only [Act.put, List.setIfInBounds_toArray, List.set_cons_zero, List.set_cons_succ]
  refine wpAnyE_take (i := 12) (oi := { dst := some 21, op := Op.load 3 (Operand.tmp 20), type := 3, pos := "filter.go:129", after := #[{ on := 11, ground := Ground.data }, { on := 14, ground := Ground.gcOnly Departure.lateStores }], guard := none }) (v := ?_) rfl (by kernel_rfl) (by kernel_rfl) (by kernel_rfl) (by kernel_rfl) (fun _ _ _ h => h) (Or.inl ⟨by rfl, ?_⟩) ?_
  rotate_left
  · (intro w hE; have a0 := cellb a0 hE; have a1 := cellb a1 hE; have a2 := cellb a2 hE; have a3 := cellb a3 hE; have b0 := cellb b0 hE; have b1 := cellb b1 hE; (try dsimp only); go_simp); (try with_reducible rfl)
  try simp only [Act.put, List.setIfInBounds_toArray, List.set_cons_zero, List.set_cons_succ]
  refine wpAnyE_take (i := 13) (oi := { dst := some 22, op := Op.binOp BinOp.sub 3 (Operand.tmp 18) (Operand.tmp 21) 3, type := 3, pos := "filter.go:129", after := #[{ on := 9, ground := Ground.data }, { on := 12, ground := Ground.data }, { on := 14, ground := Ground.gcOnly Departure.lateStores }], guard := none }) (v := ?_) rfl (by kernel_rfl) (by kernel_rfl) (by kernel_rfl) (by kernel_rfl) (fun _ _ _ h => h) (Or.inl ⟨by rfl, ?_⟩) ?_
  rotate_left
  · (intro w hE; have a0 := cellb a0 hE; have a1 := cellb a1 hE; have a2 := cellb a2 hE; have a3 := cellb a3 hE; have b0 := cellb b0 hE; have b1 := cellb b1 hE; (try dsimp only); go_simp); (try with_reducible rfl)
  try simp only [Act.put, List.setIfInBounds_toArray, List.set_cons_zero, List.set_cons_succ]
  refine wpAnyE_take (i := 14) (oi := { dst := some 7, op := Op.assign (Operand.tmp 15), type := 3, pos := "filter.go:129", after := #[{ on := 6, ground := Ground.data }, { on := 0, ground := Ground.phase }, { on := 1, ground := Ground.phase }, { on := 2, ground := Ground.phase }, { on := 3, ground := Ground.phase }, { on := 4, ground := Ground.phase }, { on := 5, ground := Ground.phase }, { on := 6, ground := Ground.phase }, { on := 7, ground := Ground.textOnly Departure.lateStores }, { on := 8, ground := Ground.textOnly Departure.lateStores }, { on := 9, ground := Ground.textOnly Departure.lateStores }, { on := 10, ground := Ground.textOnly Departure.lateStores }, { on := 11, ground := Ground.textOnly Departure.lateStores }, { on := 12, ground := Ground.textOnly Departure.lateStores }, { on := 13, ground := Ground.textOnly Departure.lateStores }], guard := none }) (v := ?_) rfl (by kernel_rfl) (by kernel_rfl) (by kernel_rfl) (by kernel_rfl) (fun _ _ _ h => h) (Or.inl ⟨by rfl, ?_⟩) ?_
  rotate_left
  · (intro w hE; have a0 := cellb a0 hE; have a1 := cellb a1 hE; have a2 := cellb a2 hE; have a3 := cellb a3 hE; have b0 := cellb b0 hE; have b1 := cellb b1 hE; (try dsimp only); go_simp); (try with_reducible rfl)
  try simp only [Act.put, List.setIfInBounds_toArray, List.set_cons_zero, List.set_cons_succ]
  refine wpAnyE_one (i := 15) (o := { dst := some 8, op := Op.assign (Operand.tmp 22), type := 3, pos := "filter.go:129", after := #[{ on := 13, ground := Ground.data }, { on := 14, ground := Ground.chain }, { on := 0, ground := Ground.phase }, { on := 1, ground := Ground.phase }, { on := 2, ground := Ground.phase }, { on := 3, ground := Ground.phase }, { on := 4, ground := Ground.phase }, { on := 5, ground := Ground.phase }, { on := 6, ground := Ground.phase }, { on := 7, ground := Ground.phase }, { on := 8, ground := Ground.phase }, { on := 9, ground := Ground.phase }, { on := 10, ground := Ground.phase }, { on := 11, ground := Ground.phase }, { on := 12, ground := Ground.phase }, { on := 13, ground := Ground.phase }, { on := 14, ground := Ground.phase }], guard := none }) (by kernel_rfl) rfl (fun wy1 hE K hK => ?_)
  have a0 := cellb a0 hE
  have a1 := cellb a1 hE
  have a2 := cellb a2 hE
  have a3 := cellb a3 hE
  have b0 := cellb b0 hE
  have b1 := cellb b1 hE
  have hbz1 := bthen hbz hE
  go_simp
  refine hK _ _ (fun _ => Below.refl _ _) ?_
  clear hK K hE
  try simp only [Act.put, List.setIfInBounds_toArray, List.set_cons_zero, List.set_cons_succ]
  refine wpAnyE_done (by kernel_rfl) (fun wy2 hE => ?_) _
  have hbz2 := bthen hbz1 hE
  have a0 := cellb a0 hE
  have a1 := cellb a1 hE
  have a2 := cellb a2 hE
  have a3 := cellb a3 hE
  have b0 := cellb b0 hE
  have b1 := cellb b1 hE
  clear hE
  have hB := hbz2
  go_wp2_with fail
  go_ret
  exact ⟨ret_int (by rw [HR.out]), hB⟩
def pointE (p : Int × Int) : Int := allE [p.1, p.2] 1000
set_option maxRecDepth 100000 in
set_option maxHeartbeats 1000000 in
theorem checkPoint_any (p : Int × Int) (w : World) :
    Calls Tryz.prog 57 #[.agg #[.int .i64 p.1, .int .i64 p.2]] w fun e w' => e = .returned (.int .i64 (pointE p)) ∧ Below w.heap.size w w' := by
  obtain ⟨a, b⟩ := p
  rw [pointE]
  simp only
  go_enter Tryz.func57, Tryz.ntmps57
  go_upto_region 1 with fail
  obtain ⟨W1, hW1⟩ : ∃ v, v = World.alloc w (Obj.cells #[.int .i64 a, .int .i64 b] 63) := ⟨_, rfl⟩
  have kW1 : Below w.heap.size w W1 := by rw [hW1]; exact below_new _ _
  have iW1 : Blk W1 (w.heap.size) 63 [.int .i64 a, .int .i64 b] := by rw [hW1]; exact Blk.new _ _ _
  have sW1 : W1.heap.size = w.heap.size + 1 := by rw [hW1]; simp
  rw [← hW1]
  clear hW1
  clear sW1
  have a0 := iW1.cell (j := 0) (v := .int .i64 a) rfl
  have a1 := iW1.cell (j := 1) (v := .int .i64 b) rfl
  go_wp2_with fail
  obtain ⟨W2, hW2⟩ : ∃ v, v = World.alloc W1 (Obj.cells #[.int .i64 a, .int .i64 b] 3) := ⟨_, rfl⟩
  have kW2 : Below W1.heap.size W1 W2 := by rw [hW2]; exact below_new _ _
  have iW2 : Blk W2 (W1.heap.size) 3 [.int .i64 a, .int .i64 b] := by rw [hW2]; exact Blk.new _ _ _
  have sW2 : W2.heap.size = W1.heap.size + 1 := by rw [hW2]; simp
  rw [← hW2]
  clear hW2
  have TA := Lib.hid (checkAll_any _ [a, b] 1000 W2 (BlkI.ints (l := [a, b]) iW2 rfl) (by simp) (by omega))
  refine TA.out.mono ?_
  rintro e w' ⟨rfl, hl⟩
  go_wp2_with fail
  go_ret
  exact ⟨rfl, bthen kW1 (bthen kW2 hl)⟩
theorem Tryz.enterCheckPoint (args : Array Value) (w : World) : Sem.run Tryz.prog (callFunc 57 args) w = .ok (.enter 57 args) w :=
  MuLone.run_callFunc_enter Tryz.func57 (by kernel_rfl) rfl args w

/-- the edges of a polygon. -/
def edgeK (l : List (Int × Int)) (k : Nat) : I4 := ((l[k]?.getD (0, 0)).1, (l[k]?.getD (0, 0)).2, (l[(k + 1) % l.length]?.getD (0, 0)).1, (l[(k + 1) % l.length]?.getD (0, 0)).2)
def edgesL (l : List (Int × Int)) : List I4 := upto (edgeK l) l.length
def cells4 (x : I4) : List Value := [.int .i64 x.1, .int .i64 x.2.1, .int .i64 x.2.2.1, .int .i64 x.2.2.2]
def flat4 (l : List I4) : List Value := (l.map cells4).flatten
theorem flat4_succ (f : Nat → I4) (k : Nat) : flat4 (upto f (k + 1)) = flat4 (upto f k) ++ cells4 (f k) := by
  rw [upto_succ, flat4, flat4, List.map_append, List.flatten_append]; simp
theorem flat4_get (l : List I4) (j : Nat) (x : I4) (h : l[j]? = some x) : (flat4 l)[j * 4]? = some (.int .i64 x.1) ∧ (flat4 l)[j * 4 + 1]? = some (.int .i64 x.2.1) ∧ (flat4 l)[j * 4 + 2]? = some (.int .i64 x.2.2.1) ∧ (flat4 l)[j * 4 + 3]? = some (.int .i64 x.2.2.2) := by
  induction l generalizing j with
  | nil => simp at h
  | cons y l ih =>
    cases j with
    | zero => simp at h; subst h; simp [flat4, cells4]
    | succ j =>
      have h' : l[j]? = some x := by simpa using h
      obtain ⟨h0, h1, h2, h3⟩ := ih j h'
      have hf : flat4 (y :: l) = cells4 y ++ flat4 l := by simp [flat4]
      have hc : (cells4 y).length = 4 := rfl
      rw [hf]
      refine ⟨?_, ?_, ?_, ?_⟩ <;> rw [List.getElem?_append_right (by omega), hc]
      · rw [show (j + 1) * 4 - 4 = j * 4 by omega]; exact h0
      · rw [show (j + 1) * 4 + 1 - 4 = j * 4 + 1 by omega]; exact h1
      · rw [show (j + 1) * 4 + 2 - 4 = j * 4 + 2 by omega]; exact h2
      · rw [show (j + 1) * 4 + 3 - 4 = j * 4 + 3 by omega]; exact h3
theorem Quads.of_own {w : World} {base : Nat} {e : TypeId} {v : Value} {l : List I4} (h : w.ownsRow base e 4 v l.length (flat4 l)) : Quads w v l := by
  rcases h.2 with ⟨hv, hn⟩ | ⟨g, cap, cur, hv, _, hg, hc, _, hcs, ht⟩
  · exact ⟨none, 0, by rw [hv, hn], by omega, fun h0 => by omega⟩
  · refine ⟨some ⟨g, 0, none⟩, cap, hv, hc, fun _ => ⟨g, 0, rfl, fun j x hj => ?_⟩⟩
    have hcell : ∀ (k : Nat) (u : Value), (flat4 l)[k]? = some u → w.cell? ⟨g, k, none⟩ = some u := fun k u hk => by
      have hlt : k < l.length * 4 := by
        have h1 := (List.getElem?_eq_some_iff.1 hk).1
        have h2 := h.1
        omega
      have e := congrArg (fun x : List Value => x[k]?) ht
      simp only [List.getElem?_take] at e
      rw [if_pos hlt, hk] at e
      have : cur[k]? = some u := by rw [← Array.getElem?_toList]; exact e
      simp [World.cell?, hg, this]
    obtain ⟨h0, h1, h2, h3⟩ := flat4_get l j x hj
    rw [Nat.zero_add]
    exact ⟨hcell _ _ h0, hcell _ _ h1, hcell _ _ h2, hcell _ _ h3⟩
theorem Tryz.infoEdge : (Tryz.prog.info? 122).map (fun i => (i.zero, i.size, i.bytes)) = some (some (.agg #[.int .i64 0, .int .i64 0, .int .i64 0, .int .i64 0]), 4, 32) := by kernel_rfl
end Go.Proofs.YtpkaoechbmbolaaGreatDoor

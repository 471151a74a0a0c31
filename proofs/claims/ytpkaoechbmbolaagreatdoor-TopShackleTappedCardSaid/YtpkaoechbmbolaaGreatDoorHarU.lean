/- The package harmonic: filters, their checks, tuned orders. (printed by gen/harU.py) -/
import Derived.Test.YtpkaoechbmbolaaGreatDoorHarN
import Derived.Test.YtpkaoechbmbolaaGreatDoorHarO
namespace Go.Proofs.YtpkaoechbmbolaaGreatDoor
set_option linter.unusedSimpArgs false
set_option linter.unusedVariables false
open Go.RowKit

theorem eqBranch (a b c d : Int) (W : World) : Sem.run Tryz.prog (binOp .eql 37 (.agg #[.int .i64 a, .int .i64 b]) (.agg #[.int .i64 c, .int .i64 d])) W = .ok (.bool (a == c && b == d)) W := by
  go_simp
  by_cases h1 : a = c <;> by_cases h2 : b = d <;> simp [h1, h2]
/-- the error of a branch. -/
def brE (x : Int × Int) : Int := firstE [withinE x.1 0 50, withinE x.2 0 2000, whenE (x.1 == 0 && x.2 == 0) 6]
set_option maxRecDepth 100000 in
set_option maxHeartbeats 1000000 in
theorem checkB_any (x : Int × Int) (w : World) :
    Calls Tryz.prog 68 #[.agg #[.int .i64 x.1, .int .i64 x.2]] w fun e w' => e = .returned (.int .i64 (brE x)) ∧ Below w.heap.size w w' := by
  obtain ⟨l, c⟩ := x
  rw [brE]
  have heq := fun W => eqBranch l c 0 0 W
  have T1 := Lib.hid (fun W => withinH_any l 0 50 W)
  have T2 := Lib.hid (fun W => withinH_any c 0 2000 W)
  have T3 := Lib.hid (fun W => whenH_any (l == 0 && c == 0) 6 W)
  generalize withinE l 0 50 = e1 at T1 ⊢
  generalize withinE c 0 2000 = e2 at T2 ⊢
  generalize (l == 0 && c == 0) = b at heq T3 ⊢
  generalize whenE b 6 = e3 at T3 ⊢
  have TF := Lib.hid (fun (u : Value) (W : World) (h : Ints W u [e1, e2, e3]) => firstH_any u [e1, e2, e3] W (by simp [maxLen]) h)
  generalize firstE [e1, e2, e3] = E at TF ⊢
  go_enter Tryz.func68, Tryz.ntmps68
  go_upto_region 1 with fail
  obtain ⟨W1, hW1⟩ : ∃ v, v = World.alloc w (Obj.cells #[.int .i64 l, .int .i64 c] 37) := ⟨_, rfl⟩
  have kW1 : Below w.heap.size w W1 := by rw [hW1]; exact below_new _ _
  have iW1 : Blk W1 (w.heap.size) 37 [.int .i64 l, .int .i64 c] := by rw [hW1]; exact Blk.new _ _ _
  have sW1 : W1.heap.size = w.heap.size + 1 := by rw [hW1]; simp
  rw [← hW1]
  clear hW1
  clear sW1
  have a0 := iW1.cell (j := 0) (v := .int .i64 l) rfl
  have a1 := iW1.cell (j := 1) (v := .int .i64 c) rfl
  refine wp_region_E 12 (by kernel_rfl) ?_
  obtain ⟨wz, hwz⟩ : ∃ v, v = W1.drew := ⟨_, rfl⟩
  rw [← hwz]
  have hlz : Below W1.heap.size W1 wz := by rw [hwz]; exact (Below.refl _ _).drew
  have hbz := bthen kW1 hlz
  have a0 := cellb a0 hlz
  have a1 := cellb a1 hlz
  clear hwz hlz
  refine wpAnyE_take (i := 0) (oi := { dst := some 3, op := Op.fieldAddr 37 (Operand.tmp 1) 0, type := 0, pos := "filter.go:25", after := #[], guard := none }) (v := ?_) rfl (by kernel_rfl) (by kernel_rfl) (by kernel_rfl) (by kernel_rfl) (fun _ _ _ h => h) (Or.inl ⟨by rfl, ?_⟩) ?_
  rotate_left
  · (intro w hE; have a0 := cellb a0 hE; have a1 := cellb a1 hE; (try dsimp only); go_simp); (try with_reducible rfl)
  try simp only [Act.put, List.setIfInBounds_toArray, List.set_cons_zero, List.set_cons_succ]
  refine wpAnyE_take (i := 1) (oi := { dst := some 4, op := Op.load 3 (Operand.tmp 3), type := 3, pos := "filter.go:25", after := #[{ on := 0, ground := Ground.data }], guard := none }) (v := ?_) rfl (by kernel_rfl) (by kernel_rfl) (by kernel_rfl) (by kernel_rfl) (fun _ _ _ h => h) (Or.inl ⟨by rfl, ?_⟩) ?_
  rotate_left
  · (intro w hE; have a0 := cellb a0 hE; have a1 := cellb a1 hE; (try dsimp only); go_simp); (try with_reducible rfl)
  try simp only [Act.put, List.setIfInBounds_toArray, List.set_cons_zero, List.set_cons_succ]
  refine wpAnyE_take (i := 3) (oi := { dst := some 6, op := Op.fieldAddr 37 (Operand.tmp 1) 1, type := 0, pos := "filter.go:25", after := #[], guard := none }) (v := ?_) rfl (by kernel_rfl) (by kernel_rfl) (by kernel_rfl) (by kernel_rfl) (fun _ _ _ h => h) (Or.inl ⟨by rfl, ?_⟩) ?_
  rotate_left
  · (intro w hE; have a0 := cellb a0 hE; have a1 := cellb a1 hE; (try dsimp only); go_simp); (try with_reducible rfl)
  try simp only [Act.put, List.setIfInBounds_toArray, List.set_cons_zero, List.set_cons_succ]
  refine wpAnyE_take (i := 4) (oi := { dst := some 7, op := Op.load 3 (Operand.tmp 6), type := 3, pos := "filter.go:25", after := #[{ on := 3, ground := Ground.data }], guard := none }) (v := ?_) rfl (by kernel_rfl) (by kernel_rfl) (by kernel_rfl) (by kernel_rfl) (fun _ _ _ h => h) (Or.inl ⟨by rfl, ?_⟩) ?_
  rotate_left
  · (intro w hE; have a0 := cellb a0 hE; have a1 := cellb a1 hE; (try dsimp only); go_simp); (try with_reducible rfl)
  try simp only [Act.put, List.setIfInBounds_toArray, List.set_cons_zero, List.set_cons_succ]
  refine wpAnyE_take (i := 6) (oi := { dst := some 9, op := Op.load 37 (Operand.tmp 1), type := 37, pos := "filter.go:25", after := #[], guard := none }) (v := ?_) rfl (by kernel_rfl) (by kernel_rfl) (by kernel_rfl) (by kernel_rfl) (fun _ _ _ h => h) (Or.inl ⟨by rfl, ?_⟩) ?_
  rotate_left
  · (intro w hE; have a0 := cellb a0 hE; have a1 := cellb a1 hE; (try dsimp only); go_simp); (try with_reducible rfl)
  try simp only [Act.put, List.setIfInBounds_toArray, List.set_cons_zero, List.set_cons_succ]
  refine wpAnyE_take (i := 7) (oi := { dst := some 10, op := Op.build 37 #[], type := 37, pos := "filter.go:25", after := #[], guard := none }) (v := ?_) rfl (by kernel_rfl) (by kernel_rfl) (by kernel_rfl) (by kernel_rfl) (fun _ _ _ h => h) (Or.inl ⟨by rfl, ?_⟩) ?_
  rotate_left
  · (intro w hE; have a0 := cellb a0 hE; have a1 := cellb a1 hE; (try dsimp only); go_simp); (try with_reducible rfl)
  try simp only [Act.put, List.setIfInBounds_toArray, List.set_cons_zero, List.set_cons_succ]
  refine wpAnyE_take (i := 8) (oi := { dst := some 11, op := Op.binOp BinOp.eql 37 (Operand.tmp 9) (Operand.tmp 10) 37, type := 4, pos := "filter.go:25", after := #[{ on := 6, ground := Ground.data }, { on := 7, ground := Ground.data }], guard := none }) (v := ?_) rfl (by kernel_rfl) (by kernel_rfl) (by kernel_rfl) (by kernel_rfl) (fun _ _ _ h => h) (Or.inl ⟨by rfl, ?_⟩) ?_
  rotate_left
  · (intro w hE; have a0 := cellb a0 hE; have a1 := cellb a1 hE; (try dsimp only); go_simp); (try with_reducible rfl)
  try simp only [Act.put, List.setIfInBounds_toArray, List.set_cons_zero, List.set_cons_succ]
  refine wpAnyE_call (i := 2) (oi := { dst := some 5, op := Op.call { callee := Callee.value (Operand.func 48), args := #[Operand.tmp 4, Operand.const (Value.int IntKind.i64 0), Operand.const (Value.int IntKind.i64 50)], argTypes := #[3, 3, 3] }, type := 39, pos := "filter.go:25", after := #[{ on := 1, ground := Ground.data }], guard := none }) (fun w hE => ofPure (T1.out w)) rfl (by kernel_rfl) (by kernel_rfl) (by kernel_rfl) (by kernel_rfl) (fun _ _ _ h => h) (by rfl) (fun w hE => by (try dsimp only); go_simp) ?_
  try simp only [Act.put, List.setIfInBounds_toArray, List.set_cons_zero, List.set_cons_succ]
  refine wpAnyE_call (i := 5) (oi := { dst := some 8, op := Op.call { callee := Callee.value (Operand.func 48), args := #[Operand.tmp 7, Operand.const (Value.int IntKind.i64 0), Operand.const (Value.int IntKind.i64 2000)], argTypes := #[3, 3, 3] }, type := 39, pos := "filter.go:25", after := #[{ on := 4, ground := Ground.data }, { on := 2, ground := Ground.chain }], guard := none }) (fun w hE => ofPure (T2.out w)) rfl (by kernel_rfl) (by kernel_rfl) (by kernel_rfl) (by kernel_rfl) (fun _ _ _ h => h) (by rfl) (fun w hE => by (try dsimp only); go_simp) ?_
  try simp only [Act.put, List.setIfInBounds_toArray, List.set_cons_zero, List.set_cons_succ]
  refine wpAnyE_call (i := 9) (oi := { dst := some 12, op := Op.call { callee := Callee.value (Operand.func 35), args := #[Operand.tmp 11, Operand.const (Value.int IntKind.i64 6)], argTypes := #[4, 39] }, type := 39, pos := "filter.go:25", after := #[{ on := 8, ground := Ground.data }, { on := 5, ground := Ground.chain }], guard := none }) (fun w hE => ofPure (T3.out w)) rfl (by kernel_rfl) (by kernel_rfl) (by kernel_rfl) (by kernel_rfl) (fun _ _ _ h => h) (by rfl) (fun w hE => by (try dsimp only); go_simp) ?_
  try simp only [Act.put, List.setIfInBounds_toArray, List.set_cons_zero, List.set_cons_succ]
  refine wpAnyE_one (i := 10) (o := { dst := some 13, op := Op.buildSlice 101 3 #[(0, Operand.tmp 5), (1, Operand.tmp 8), (2, Operand.tmp 12)], type := 101, pos := "filter.go:25", after := #[{ on := 2, ground := Ground.data }, { on := 5, ground := Ground.data }, { on := 9, ground := Ground.data }], guard := none }) (by kernel_rfl) rfl (fun wy1 hE K hK => ?_)
  have a0 := cellb a0 hE
  have a1 := cellb a1 hE
  have hbz1 := bthen hbz hE
  clear hE
  go_simp
  obtain ⟨wx1, hwz⟩ : ∃ v, v = wy1.alloc (Obj.cells #[.int .i64 e1, .int .i64 e2, .int .i64 e3] 39) := ⟨_, rfl⟩
  rw [← hwz]
  have hl : Below wy1.heap.size wy1 wx1 := by rw [hwz]; exact below_new _ _
  have hcz1 := bthen hbz1 hl
  have iN : BlkI wx1 wy1.heap.size 39 [e1, e2, e3] := by rw [hwz]; exact Blk.new _ _ _
  generalize wy1.heap.size = G at iN ⊢
  have a0 := cellb a0 hl
  have a1 := cellb a1 hl
  clear hwz
  refine hK _ _ (fun _ => hl) ?_
  clear hK K hl
  try simp only [Act.put, List.setIfInBounds_toArray, List.set_cons_zero, List.set_cons_succ]
  refine wpAnyE_call (i := 11) (oi := { dst := some 14, op := Op.call { callee := Callee.value (Operand.func 24), args := #[Operand.tmp 13], argTypes := #[101] }, type := 39, pos := "filter.go:25", after := #[{ on := 10, ground := Ground.data }, { on := 9, ground := Ground.chain }], guard := none }) (fun w hE => ofPure (TF.out _ w ((BlkI.ints iN rfl).carry hE))) rfl (by kernel_rfl) (by kernel_rfl) (by kernel_rfl) (by kernel_rfl) (fun _ _ _ h => h) (by rfl) (fun w hE => by (try dsimp only); go_simp) ?_
  try simp only [Act.put, List.setIfInBounds_toArray, List.set_cons_zero, List.set_cons_succ]
  refine wpAnyE_one (i := 12) (o := { dst := some 2, op := Op.assign (Operand.tmp 14), type := 39, pos := "filter.go:25", after := #[{ on := 11, ground := Ground.data }, { on := 11, ground := Ground.chain }, { on := 0, ground := Ground.phase }, { on := 1, ground := Ground.phase }, { on := 2, ground := Ground.phase }, { on := 3, ground := Ground.phase }, { on := 4, ground := Ground.phase }, { on := 5, ground := Ground.phase }, { on := 6, ground := Ground.phase }, { on := 7, ground := Ground.phase }, { on := 8, ground := Ground.phase }, { on := 9, ground := Ground.phase }, { on := 10, ground := Ground.phase }, { on := 11, ground := Ground.phase }], guard := none }) (by kernel_rfl) rfl (fun wy2 hE K hK => ?_)
  have a0 := cellb a0 hE
  have a1 := cellb a1 hE
  have hbz2 := bthen hcz1 hE
  go_simp
  refine hK _ _ (fun _ => Below.refl _ _) ?_
  clear hK K hE
  try simp only [Act.put, List.setIfInBounds_toArray, List.set_cons_zero, List.set_cons_succ]
  refine wpAnyE_done (by kernel_rfl) (fun wy3 hE => ?_) _
  have hbz3 := bthen hbz2 hE
  have a0 := cellb a0 hE
  have a1 := cellb a1 hE
  clear hE
  have hB := hbz3
  go_wp2_with fail
  go_ret
  exact ⟨rfl, hB⟩

theorem Tryz.enterCheckB (args : Array Value) (w : World) : Sem.run Tryz.prog (callFunc 68 args) w = .ok (.enter 68 args) w :=
  MuLone.run_callFunc_enter Tryz.func68 (by kernel_rfl) rfl args w

def orE (e f : Int) : Int := if e = 0 then f else e
def fltN (ls : List (Int × Int)) : Int := firstE [whenE ((ls.length : Int) == 0) 12, whenE (decide ((3 : Int) < ls.length)) 5]
/-- the error of a filter. -/
def fltE (ls : List (Int × Int)) : Int := orE (fltN ls) (firstE (ls.map brE))
set_option maxRecDepth 100000 in
set_option maxHeartbeats 1000000 in
theorem CheckFilter_any (v : Value) (ls : List (Int × Int)) (w : World) (hv : Pairs w v ls) (hl : ls.length ≤ 1000000) :
    Calls Tryz.prog 31 #[.agg #[v]] w fun e w' => e = .returned (.int .i64 (fltE ls)) ∧ Below w.heap.size w w' := by
  have HV := Lib.hid hv
  obtain ⟨a, cp, rfl, _, _⟩ := id hv
  rw [fltE, fltN]
  have T1 := Lib.hid (fun W => whenH_any ((ls.length : Int) == 0) 12 W)
  have T2 := Lib.hid (fun W => whenH_any (decide ((3 : Int) < ls.length)) 5 W)
  generalize hg1 : whenE ((ls.length : Int) == 0) 12 = e1 at T1 ⊢
  generalize hg2 : whenE (decide ((3 : Int) < ls.length)) 5 = e2 at T2 ⊢
  clear hg1 hg2
  have TF := Lib.hid (fun (u : Value) (W : World) (h : Ints W u [e1, e2]) => firstH_any u [e1, e2] W (by simp [maxLen]) h)
  obtain ⟨E, hE⟩ : ∃ E, E = firstE [e1, e2] := ⟨_, rfl⟩
  rw [← hE] at TF ⊢
  clear hE hv
  go_enter Tryz.func31, Tryz.ntmps31
  go_upto_region 1 with fail
  obtain ⟨W1, hW1⟩ : ∃ v, v = World.alloc w (Obj.cells #[.slice a ls.length cp] 34) := ⟨_, rfl⟩
  have kW1 : Below w.heap.size w W1 := by rw [hW1]; exact below_new _ _
  have iW1 : Blk W1 (w.heap.size) 34 [.slice a ls.length cp] := by rw [hW1]; exact Blk.new _ _ _
  have sW1 : W1.heap.size = w.heap.size + 1 := by rw [hW1]; simp
  rw [← hW1]
  clear hW1
  clear sW1
  have a0 := iW1.cell (j := 0) (v := .slice a ls.length cp) rfl
  refine wp_region_E 12 (by kernel_rfl) ?_
  obtain ⟨wz, hwz⟩ : ∃ v, v = W1.drew := ⟨_, rfl⟩
  rw [← hwz]
  have hlz : Below W1.heap.size W1 wz := by rw [hwz]; exact (Below.refl _ _).drew
  have hbz := bthen kW1 hlz
  have a0 := cellb a0 hlz
  clear hwz hlz
  refine wpAnyE_take (i := 0) (oi := { dst := some 4, op := Op.fieldAddr 34 (Operand.tmp 1) 0, type := 0, pos := "filter.go:30", after := #[], guard := none }) (v := ?_) rfl (by kernel_rfl) (by kernel_rfl) (by kernel_rfl) (by kernel_rfl) (fun _ _ _ h => h) (Or.inl ⟨by rfl, ?_⟩) ?_
  rotate_left
  · (intro w hE; have a0 := cellb a0 hE; (try dsimp only); go_simp); (try with_reducible rfl)
  try simp only [Act.put, List.setIfInBounds_toArray, List.set_cons_zero, List.set_cons_succ]
  refine wpAnyE_take (i := 1) (oi := { dst := some 5, op := Op.load 32 (Operand.tmp 4), type := 32, pos := "filter.go:30", after := #[{ on := 0, ground := Ground.data }], guard := none }) (v := ?_) rfl (by kernel_rfl) (by kernel_rfl) (by kernel_rfl) (by kernel_rfl) (fun _ _ _ h => h) (Or.inl ⟨by rfl, ?_⟩) ?_
  rotate_left
  · (intro w hE; have a0 := cellb a0 hE; (try dsimp only); go_simp); (try with_reducible rfl)
  try simp only [Act.put, List.setIfInBounds_toArray, List.set_cons_zero, List.set_cons_succ]
  refine wpAnyE_take (i := 2) (oi := { dst := some 6, op := Op.call { callee := Callee.builtin Builtin.len, args := #[Operand.tmp 5], argTypes := #[32] }, type := 3, pos := "filter.go:30", after := #[{ on := 1, ground := Ground.data }], guard := none }) (v := ?_) rfl (by kernel_rfl) (by kernel_rfl) (by kernel_rfl) (by kernel_rfl) (fun _ _ _ h => h) (Or.inl ⟨by rfl, ?_⟩) ?_
  rotate_left
  · (intro w hE; have a0 := cellb a0 hE; (try dsimp only); go_simp); (try with_reducible rfl)
  try simp only [Act.put, List.setIfInBounds_toArray, List.set_cons_zero, List.set_cons_succ]
  refine wpAnyE_take (i := 3) (oi := { dst := some 7, op := Op.binOp BinOp.eql 3 (Operand.tmp 6) (Operand.const (Value.int IntKind.i64 0)) 3, type := 4, pos := "filter.go:30", after := #[{ on := 2, ground := Ground.data }], guard := none }) (v := ?_) rfl (by kernel_rfl) (by kernel_rfl) (by kernel_rfl) (by kernel_rfl) (fun _ _ _ h => h) (Or.inl ⟨by rfl, ?_⟩) ?_
  rotate_left
  · (intro w hE; have a0 := cellb a0 hE; (try dsimp only); go_simp); (try with_reducible rfl)
  try simp only [Act.put, List.setIfInBounds_toArray, List.set_cons_zero, List.set_cons_succ]
  refine wpAnyE_take (i := 5) (oi := { dst := some 9, op := Op.fieldAddr 34 (Operand.tmp 1) 0, type := 0, pos := "filter.go:30", after := #[], guard := none }) (v := ?_) rfl (by kernel_rfl) (by kernel_rfl) (by kernel_rfl) (by kernel_rfl) (fun _ _ _ h => h) (Or.inl ⟨by rfl, ?_⟩) ?_
  rotate_left
  · (intro w hE; have a0 := cellb a0 hE; (try dsimp only); go_simp); (try with_reducible rfl)
  try simp only [Act.put, List.setIfInBounds_toArray, List.set_cons_zero, List.set_cons_succ]
  refine wpAnyE_take (i := 6) (oi := { dst := some 10, op := Op.load 32 (Operand.tmp 9), type := 32, pos := "filter.go:30", after := #[{ on := 5, ground := Ground.data }], guard := none }) (v := ?_) rfl (by kernel_rfl) (by kernel_rfl) (by kernel_rfl) (by kernel_rfl) (fun _ _ _ h => h) (Or.inl ⟨by rfl, ?_⟩) ?_
  rotate_left
  · (intro w hE; have a0 := cellb a0 hE; (try dsimp only); go_simp); (try with_reducible rfl)
  try simp only [Act.put, List.setIfInBounds_toArray, List.set_cons_zero, List.set_cons_succ]
  refine wpAnyE_take (i := 7) (oi := { dst := some 11, op := Op.call { callee := Callee.builtin Builtin.len, args := #[Operand.tmp 10], argTypes := #[32] }, type := 3, pos := "filter.go:30", after := #[{ on := 6, ground := Ground.data }], guard := none }) (v := ?_) rfl (by kernel_rfl) (by kernel_rfl) (by kernel_rfl) (by kernel_rfl) (fun _ _ _ h => h) (Or.inl ⟨by rfl, ?_⟩) ?_
  rotate_left
  · (intro w hE; have a0 := cellb a0 hE; (try dsimp only); go_simp); (try with_reducible rfl)
  try simp only [Act.put, List.setIfInBounds_toArray, List.set_cons_zero, List.set_cons_succ]
  refine wpAnyE_take (i := 8) (oi := { dst := some 12, op := Op.binOp BinOp.gtr 3 (Operand.tmp 11) (Operand.const (Value.int IntKind.i64 3)) 3, type := 4, pos := "filter.go:30", after := #[{ on := 7, ground := Ground.data }], guard := none }) (v := ?_) rfl (by kernel_rfl) (by kernel_rfl) (by kernel_rfl) (by kernel_rfl) (fun _ _ _ h => h) (Or.inl ⟨by rfl, ?_⟩) ?_
  rotate_left
  · (intro w hE; have a0 := cellb a0 hE; (try dsimp only); go_simp); (try with_reducible rfl)
  try simp only [Act.put, List.setIfInBounds_toArray, List.set_cons_zero, List.set_cons_succ]
  refine wpAnyE_call (i := 4) (oi := { dst := some 8, op := Op.call { callee := Callee.value (Operand.func 35), args := #[Operand.tmp 7, Operand.const (Value.int IntKind.i64 12)], argTypes := #[4, 39] }, type := 39, pos := "filter.go:30", after := #[{ on := 3, ground := Ground.data }], guard := none }) (fun w hE => ofPure (T1.out w)) rfl (by kernel_rfl) (by kernel_rfl) (by kernel_rfl) (by kernel_rfl) (fun _ _ _ h => h) (by rfl) (fun w hE => by (try dsimp only); go_simp) ?_
  try simp only [Act.put, List.setIfInBounds_toArray, List.set_cons_zero, List.set_cons_succ]
  refine wpAnyE_call (i := 9) (oi := { dst := some 13, op := Op.call { callee := Callee.value (Operand.func 35), args := #[Operand.tmp 12, Operand.const (Value.int IntKind.i64 5)], argTypes := #[4, 39] }, type := 39, pos := "filter.go:30", after := #[{ on := 8, ground := Ground.data }, { on := 4, ground := Ground.chain }], guard := none }) (fun w hE => ofPure (T2.out w)) rfl (by kernel_rfl) (by kernel_rfl) (by kernel_rfl) (by kernel_rfl) (fun _ _ _ h => h) (by rfl) (fun w hE => by (try dsimp only); go_simp) ?_
  try simp only [Act.put, List.setIfInBounds_toArray, List.set_cons_zero, List.set_cons_succ]
  refine wpAnyE_one (i := 10) (o := { dst := some 14, op := Op.buildSlice 101 2 #[(0, Operand.tmp 8), (1, Operand.tmp 13)], type := 101, pos := "filter.go:30", after := #[{ on := 4, ground := Ground.data }, { on := 9, ground := Ground.data }], guard := none }) (by kernel_rfl) rfl (fun wy1 hE K hK => ?_)
  have a0 := cellb a0 hE
  have hbz1 := bthen hbz hE
  clear hE
  go_simp
  obtain ⟨wx1, hwz⟩ : ∃ v, v = wy1.alloc (Obj.cells #[.int .i64 e1, .int .i64 e2] 39) := ⟨_, rfl⟩
  rw [← hwz]
  have hl : Below wy1.heap.size wy1 wx1 := by rw [hwz]; exact below_new _ _
  have hcz1 := bthen hbz1 hl
  have iN : BlkI wx1 wy1.heap.size 39 [e1, e2] := by rw [hwz]; exact Blk.new _ _ _
  generalize wy1.heap.size = G at iN ⊢
  have a0 := cellb a0 hl
  clear hwz
  refine hK _ _ (fun _ => hl) ?_
  clear hK K hl
  try simp only [Act.put, List.setIfInBounds_toArray, List.set_cons_zero, List.set_cons_succ]
  refine wpAnyE_call (i := 11) (oi := { dst := some 15, op := Op.call { callee := Callee.value (Operand.func 24), args := #[Operand.tmp 14], argTypes := #[101] }, type := 39, pos := "filter.go:30", after := #[{ on := 10, ground := Ground.data }, { on := 9, ground := Ground.chain }], guard := none }) (fun w hE => ofPure (TF.out _ w ((BlkI.ints iN rfl).carry hE))) rfl (by kernel_rfl) (by kernel_rfl) (by kernel_rfl) (by kernel_rfl) (fun _ _ _ h => h) (by rfl) (fun w hE => by (try dsimp only); go_simp) ?_
  try simp only [Act.put, List.setIfInBounds_toArray, List.set_cons_zero, List.set_cons_succ]
  refine wpAnyE_one (i := 12) (o := { dst := some 3, op := Op.assign (Operand.tmp 15), type := 39, pos := "filter.go:30", after := #[{ on := 11, ground := Ground.data }, { on := 11, ground := Ground.chain }, { on := 0, ground := Ground.phase }, { on := 1, ground := Ground.phase }, { on := 2, ground := Ground.phase }, { on := 3, ground := Ground.phase }, { on := 4, ground := Ground.phase }, { on := 5, ground := Ground.phase }, { on := 6, ground := Ground.phase }, { on := 7, ground := Ground.phase }, { on := 8, ground := Ground.phase }, { on := 9, ground := Ground.phase }, { on := 10, ground := Ground.phase }, { on := 11, ground := Ground.phase }], guard := none }) (by kernel_rfl) rfl (fun wy2 hE K hK => ?_)
  have a0 := cellb a0 hE
  have hbz2 := bthen hcz1 hE
  go_simp
  refine hK _ _ (fun _ => Below.refl _ _) ?_
  clear hK K hE
  try simp only [Act.put, List.setIfInBounds_toArray, List.set_cons_zero, List.set_cons_succ]
  refine wpAnyE_done (by kernel_rfl) (fun wy3 hE => ?_) _
  have hbz3 := bthen hbz2 hE
  have a0 := cellb a0 hE
  clear hE
  have hB := hbz3
  obtain ⟨W5, hW5⟩ : ∃ v, v = wy3 := ⟨_, rfl⟩
  rw [← hW5] at hB a0 ⊢
  clear hW5
  by_cases he : E = 0
  · subst he
    have TM := Lib.hid (mappedBE_any 68 #[] Tryz.enterCheckB brE _ ls W5 (by omega) (HV.out.carry hB) (fun x _ w1 _ => checkB_any x w1))
    go_wp2_with fail
    refine TM.out.mono ?_
    rintro e w6 ⟨⟨u, rfl, hu⟩, hb6⟩
    have TF2 := Lib.hid (firstH_any u (ls.map brE) w6 (by simp [maxLen]; omega) hu)
    go_wp2_with fail
    refine TF2.out.mono ?_
    rintro e w' ⟨rfl, rfl⟩
    go_wp2_with fail
    go_ret
    exact ⟨by rw [orE, if_pos rfl]; rfl, bthen hB hb6⟩
  · have z : (E == 0) = false := by rw [beq_eq_false_iff_ne]; exact he
    have HNE := Lib.hid he
    go_wp2_with fail
    go_ret
    exact ⟨by rw [orE, if_neg HNE.out]; rfl, hB⟩
/-- what the capacity leaves. -/
def leftB (x : Int × Int) (h : Int) : Int := wrap64 (x.2 - wrap64 (wrap64 (h * h) * x.1))

set_option maxRecDepth 100000 in
set_option maxHeartbeats 1000000 in
theorem leftB_any0 (l c h : Int) (w : World) :
    Calls Tryz.prog 96 #[.agg #[.int .i64 l, .int .i64 c], .int .i64 h] w fun e w' => e = .returned (.int .i64 (wrap64 (c - wrap64 (wrap64 (h * h) * l)))) ∧ Below w.heap.size w w' := by
  go_enter Tryz.func96, Tryz.ntmps96
  go_upto_region 1 with fail
  obtain ⟨W1, hW1⟩ : ∃ v, v = World.alloc w (Obj.cells #[.int .i64 l, .int .i64 c] 37) := ⟨_, rfl⟩
  have kW1 : Below w.heap.size w W1 := by rw [hW1]; exact below_new _ _
  have iW1 : Blk W1 (w.heap.size) 37 [.int .i64 l, .int .i64 c] := by rw [hW1]; exact Blk.new _ _ _
  have sW1 : W1.heap.size = w.heap.size + 1 := by rw [hW1]; simp
  rw [← hW1]
  clear hW1
  clear sW1
  have i1 := iW1
  have hB : Below w.heap.size w W1 := kW1
  clear iW1 kW1
  have c0 := i1.cell (j := 0) (v := .int .i64 l) rfl
  have c1 := i1.cell (j := 1) (v := .int .i64 c) rfl
  go_wp2_with fail
  go_ret
  exact ⟨rfl, hB⟩


theorem leftB_any (x : Int × Int) (h : Int) (w : World) : Calls Tryz.prog 96 #[.agg #[.int .i64 x.1, .int .i64 x.2], .int .i64 h] w fun e w' => e = .returned (.int .i64 (leftB x h)) ∧ Below w.heap.size w w' := leftB_any0 x.1 x.2 h w

theorem Tryz.enterTuned1 (args : Array Value) (w : World) : Sem.run Tryz.prog (callFunc 95 args) w = .ok (.enter 95 args) w :=
  MuLone.run_callFunc_enter Tryz.func95 (by kernel_rfl) rfl args w
set_option maxRecDepth 100000 in
set_option maxHeartbeats 1000000 in
theorem tuned1_any (x : Int × Int) (h : Int) (B : Nat) (w : World) (hc : w.cell? ⟨B, 0, none⟩ = some (.int .i64 h)) :
    Calls Tryz.prog 95 #[.agg #[.int .i64 x.1, .int .i64 x.2], .pointer (some ⟨B, 0, none⟩)] w fun e w' => e = .returned (.bool (leftB x h == 0)) ∧ Below w.heap.size w w' := by
  have TL := Lib.hid (fun W => leftB_any x h W)
  generalize leftB x h = r at TL ⊢
  obtain ⟨l, c⟩ := x
  simp only at TL ⊢
  go_enter Tryz.func95, Tryz.ntmps95
  go_upto_region 1 with fail
  obtain ⟨W1, hW1⟩ : ∃ v, v = World.alloc w (Obj.cells #[.int .i64 l, .int .i64 c] 37) := ⟨_, rfl⟩
  have kW1 : Below w.heap.size w W1 := by rw [hW1]; exact below_new _ _
  have iW1 : Blk W1 (w.heap.size) 37 [.int .i64 l, .int .i64 c] := by rw [hW1]; exact Blk.new _ _ _
  have sW1 : W1.heap.size = w.heap.size + 1 := by rw [hW1]; simp
  rw [← hW1]
  clear hW1
  clear sW1
  have a0 := iW1.cell (j := 0) (v := .int .i64 l) rfl
  have a1 := iW1.cell (j := 1) (v := .int .i64 c) rfl
  have a2 := cellb hc kW1
  go_wp2_with fail
  refine (TL.out W1).mono ?_
  rintro e w2 ⟨rfl, hb⟩
  go_wp2
  go_ret
  exact ⟨ret_bool (by simp), bthen kW1 hb⟩
def tunedB (ls : List (Int × Int)) (h : Int) : Bool := ls.any fun x => leftB x h == 0
set_option maxRecDepth 100000 in
set_option maxHeartbeats 1000000 in
theorem tuned_any (v : Value) (ls : List (Int × Int)) (h : Int) (w : World) (hv : Pairs w v ls) (hl : ls.length ≤ 1000000) :
    Calls Tryz.prog 70 #[.agg #[v], .int .i64 h] w fun e w' => e = .returned (.bool (tunedB ls h)) ∧ Below w.heap.size w w' := by
  have HV := Lib.hid hv
  obtain ⟨a, cp, rfl, _, _⟩ := id hv
  clear hv
  go_enter Tryz.func70, Tryz.ntmps70
  go_upto_region 1 with fail
  obtain ⟨W1, hW1⟩ : ∃ v, v = World.alloc w (Obj.cells #[.slice a ls.length cp] 34) := ⟨_, rfl⟩
  have kW1 : Below w.heap.size w W1 := by rw [hW1]; exact below_new _ _
  have iW1 : Blk W1 (w.heap.size) 34 [.slice a ls.length cp] := by rw [hW1]; exact Blk.new _ _ _
  have sW1 : W1.heap.size = w.heap.size + 1 := by rw [hW1]; simp
  rw [← hW1]
  clear hW1
  obtain ⟨W2, hW2⟩ : ∃ v, v = World.alloc W1 (Obj.cells #[.int .i64 h] 3) := ⟨_, rfl⟩
  have kW2 : Below W1.heap.size W1 W2 := by rw [hW2]; exact below_new _ _
  have iW2 : Blk W2 (w.heap.size + 1) 3 [.int .i64 h] := by rw [hW2, ← sW1]; exact Blk.new _ _ _
  have sW2 : W2.heap.size = w.heap.size + 1 + 1 := by rw [hW2]; simp [sW1]
  rw [← hW2]
  clear hW2
  have a0 := (iW1.carry kW2).cell (j := 0) (v := .slice a ls.length cp) rfl
  have a1 := iW2.cell (j := 0) (v := .int .i64 h) rfl
  have hB := bthen kW1 kW2
  have TC := Lib.hid (ContainsFuncB_any 95 #[.pointer (some ⟨w.heap.size + 1, 0, none⟩)] Tryz.enterTuned1 (fun x => leftB x h == 0) _ ls W2 (by omega) (HV.out.carry hB) (fun x _ w1 hb => tuned1_any x h _ w1 (cellb a1 hb)))
  go_wp2_with fail
  refine TC.out.mono ?_
  rintro e w2 ⟨rfl, hb⟩
  go_wp2
  go_ret
  exact ⟨rfl, bthen hB hb⟩
end Go.Proofs.YtpkaoechbmbolaaGreatDoor

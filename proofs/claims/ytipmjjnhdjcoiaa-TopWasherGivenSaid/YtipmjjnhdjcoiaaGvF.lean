/- Package flow: losses. -/
import Derived.Test.YtipmjjnhdjcoiaaGvP
import Derived.Test.YtipmjjnhdjcoiaaFlowA
namespace Go.Proofs.Ytipmjjnhdjcoiaa
set_option linter.unusedSimpArgs false
set_option linter.unusedVariables false
open Go.RowKit

theorem zero2F (u : Value) (W : World) (h : Ints W u [0, 0]) : Calls Try.prog 19 #[u] W fun r w' => r = .returned (.int .i64 0) ∧ W = w' := firstF_any u [0, 0] W (by simp [maxLen]) h
theorem zero3F (u : Value) (W : World) (h : Ints W u [0, 0, 0]) : Calls Try.prog 19 #[u] W fun r w' => r = .returned (.int .i64 0) ∧ W = w' := firstF_any u [0, 0, 0] W (by simp [maxLen]) h
theorem zero4F (u : Value) (W : World) (h : Ints W u [0, 0, 0, 0]) : Calls Try.prog 19 #[u] W fun r w' => r = .returned (.int .i64 0) ∧ W = w' := firstF_any u [0, 0, 0, 0] W (by simp [maxLen]) h
theorem within0F {n lo hi : Int} (h : lo ≤ n ∧ n ≤ hi) (W : World) : Calls Try.prog 30 #[.int .i64 n, .int .i64 lo, .int .i64 hi] W fun r w' => r = .returned (.int .i64 0) ∧ W = w' := by
  have := withinF_any n lo hi W
  rwa [withinG_zero.2 h] at this
theorem when0F (e : Int) (W : World) : Calls Try.prog 28 #[.bool false, .int .i64 e] W fun r w' => r = .returned (.int .i64 0) ∧ W = w' := whenF_any false e W
set_option maxRecDepth 100000 in
set_option maxHeartbeats 1000000 in
theorem CheckLossesF_ok (a b c : Int) (w : World) (hok : LsOk a b c) : Calls Try.prog 37 #[.agg #[.int .i64 a, .int .i64 b, .int .i64 c]] w fun r w' => r = .returned (.int .i64 0) ∧ Below w.heap.size w w' := by
  have T0 := Lib.hid (fun W => within0F hok.a W)
  have T1 := Lib.hid (fun W => within0F hok.b W)
  have T2 := Lib.hid (fun W => within0F hok.c W)
  have TF := Lib.hid zero3F
  clear hok
  go_enter Try.func37, Try.ntmps37
  go_upto_region 1 with fail
  obtain ⟨W1, hW1⟩ : ∃ v, v = World.alloc w (Obj.cells #[.int .i64 a, .int .i64 b, .int .i64 c] 48) := ⟨_, rfl⟩
  have kW1 : Below w.heap.size w W1 := by rw [hW1]; exact below_new _ _
  have iW1 : Blk W1 (w.heap.size) 48 [.int .i64 a, .int .i64 b, .int .i64 c] := by rw [hW1]; exact Blk.new _ _ _
  have sW1 : W1.heap.size = w.heap.size + 1 := by rw [hW1]; simp
  rw [← hW1]
  clear hW1
  have c0 := iW1.cell (j := 0) (v := .int .i64 a) rfl
  have c1 := iW1.cell (j := 1) (v := .int .i64 b) rfl
  have c2 := iW1.cell (j := 2) (v := .int .i64 c) rfl
  have hB := kW1
  clear iW1 kW1 sW1
  refine wp_region_E 99 (by kernel_rfl) ?_
  obtain ⟨wz, hwz⟩ : ∃ v, v = W1.drew := ⟨_, rfl⟩
  rw [← hwz]
  have hlz : Below W1.heap.size W1 wz := by rw [hwz]; exact (Below.refl _ _).drew
  have hbz := bthen hB hlz
  have c0 := cellb c0 hlz
  have c1 := cellb c1 hlz
  have c2 := cellb c2 hlz
  clear hwz hlz
  refine wpAnyE_take (i := 0) (oi := { dst := some 3, op := Op.fieldAddr 48 (Operand.tmp 1) 0, type := 0, pos := "flow.go:265", after := #[], guard := none }) (v := ?_) rfl (by kernel_rfl) (by kernel_rfl) (by kernel_rfl) (by kernel_rfl) (fun _ _ _ h => h) (Or.inl ⟨by rfl, ?_⟩) ?_
  rotate_left
  · (intro w hE; (try dsimp only); go_simp); (try with_reducible rfl)
  try simp only [Act.put, List.setIfInBounds_toArray, List.set_cons_zero, List.set_cons_succ]
  refine wpAnyE_take (i := 1) (oi := { dst := some 4, op := Op.load 3 (Operand.tmp 3), type := 3, pos := "flow.go:265", after := #[{ on := 0, ground := Ground.data }], guard := none }) (v := ?_) rfl (by kernel_rfl) (by kernel_rfl) (by kernel_rfl) (by kernel_rfl) (fun _ _ _ h => h) (Or.inl ⟨by rfl, ?_⟩) ?_
  rotate_left
  · (intro w hE; have c0 := cellb c0 hE; have c1 := cellb c1 hE; have c2 := cellb c2 hE; (try dsimp only); go_simp); (try with_reducible rfl)
  try simp only [Act.put, List.setIfInBounds_toArray, List.set_cons_zero, List.set_cons_succ]
  refine wpAnyE_take (i := 3) (oi := { dst := some 6, op := Op.fieldAddr 48 (Operand.tmp 1) 1, type := 0, pos := "flow.go:265", after := #[], guard := none }) (v := ?_) rfl (by kernel_rfl) (by kernel_rfl) (by kernel_rfl) (by kernel_rfl) (fun _ _ _ h => h) (Or.inl ⟨by rfl, ?_⟩) ?_
  rotate_left
  · (intro w hE; (try dsimp only); go_simp); (try with_reducible rfl)
  try simp only [Act.put, List.setIfInBounds_toArray, List.set_cons_zero, List.set_cons_succ]
  refine wpAnyE_take (i := 4) (oi := { dst := some 7, op := Op.load 3 (Operand.tmp 6), type := 3, pos := "flow.go:265", after := #[{ on := 3, ground := Ground.data }], guard := none }) (v := ?_) rfl (by kernel_rfl) (by kernel_rfl) (by kernel_rfl) (by kernel_rfl) (fun _ _ _ h => h) (Or.inl ⟨by rfl, ?_⟩) ?_
  rotate_left
  · (intro w hE; have c0 := cellb c0 hE; have c1 := cellb c1 hE; have c2 := cellb c2 hE; (try dsimp only); go_simp); (try with_reducible rfl)
  try simp only [Act.put, List.setIfInBounds_toArray, List.set_cons_zero, List.set_cons_succ]
  refine wpAnyE_take (i := 6) (oi := { dst := some 9, op := Op.fieldAddr 48 (Operand.tmp 1) 2, type := 0, pos := "flow.go:265", after := #[], guard := none }) (v := ?_) rfl (by kernel_rfl) (by kernel_rfl) (by kernel_rfl) (by kernel_rfl) (fun _ _ _ h => h) (Or.inl ⟨by rfl, ?_⟩) ?_
  rotate_left
  · (intro w hE; (try dsimp only); go_simp); (try with_reducible rfl)
  try simp only [Act.put, List.setIfInBounds_toArray, List.set_cons_zero, List.set_cons_succ]
  refine wpAnyE_take (i := 7) (oi := { dst := some 10, op := Op.load 3 (Operand.tmp 9), type := 3, pos := "flow.go:265", after := #[{ on := 6, ground := Ground.data }], guard := none }) (v := ?_) rfl (by kernel_rfl) (by kernel_rfl) (by kernel_rfl) (by kernel_rfl) (fun _ _ _ h => h) (Or.inl ⟨by rfl, ?_⟩) ?_
  rotate_left
  · (intro w hE; have c0 := cellb c0 hE; have c1 := cellb c1 hE; have c2 := cellb c2 hE; (try dsimp only); go_simp); (try with_reducible rfl)
  try simp only [Act.put, List.setIfInBounds_toArray, List.set_cons_zero, List.set_cons_succ]
  refine wpAnyE_call (i := 2) (oi := { dst := some 5, op := Op.call { callee := Callee.value (Operand.func 30), args := #[Operand.tmp 4, Operand.const (Value.int IntKind.i64 0), Operand.const (Value.int IntKind.i64 1000)], argTypes := #[3, 3, 3] }, type := 36, pos := "flow.go:265", after := #[{ on := 1, ground := Ground.data }], guard := none }) (fun w hE => ofPure (T0.out w)) rfl (by kernel_rfl) (by kernel_rfl) (by kernel_rfl) (by kernel_rfl) (fun _ _ _ h => h) (by rfl) (fun w hE => by (try dsimp only); go_simp) ?_
  try simp only [Act.put, List.setIfInBounds_toArray, List.set_cons_zero, List.set_cons_succ]
  refine wpAnyE_call (i := 5) (oi := { dst := some 8, op := Op.call { callee := Callee.value (Operand.func 30), args := #[Operand.tmp 7, Operand.const (Value.int IntKind.i64 0), Operand.const (Value.int IntKind.i64 1000)], argTypes := #[3, 3, 3] }, type := 36, pos := "flow.go:265", after := #[{ on := 4, ground := Ground.data }, { on := 2, ground := Ground.chain }], guard := none }) (fun w hE => ofPure (T1.out w)) rfl (by kernel_rfl) (by kernel_rfl) (by kernel_rfl) (by kernel_rfl) (fun _ _ _ h => h) (by rfl) (fun w hE => by (try dsimp only); go_simp) ?_
  try simp only [Act.put, List.setIfInBounds_toArray, List.set_cons_zero, List.set_cons_succ]
  refine wpAnyE_call (i := 8) (oi := { dst := some 11, op := Op.call { callee := Callee.value (Operand.func 30), args := #[Operand.tmp 10, Operand.const (Value.int IntKind.i64 0), Operand.const (Value.int IntKind.i64 1000)], argTypes := #[3, 3, 3] }, type := 36, pos := "flow.go:265", after := #[{ on := 7, ground := Ground.data }, { on := 5, ground := Ground.chain }], guard := none }) (fun w hE => ofPure (T2.out w)) rfl (by kernel_rfl) (by kernel_rfl) (by kernel_rfl) (by kernel_rfl) (fun _ _ _ h => h) (by rfl) (fun w hE => by (try dsimp only); go_simp) ?_
  try simp only [Act.put, List.setIfInBounds_toArray, List.set_cons_zero, List.set_cons_succ]
  refine wpAnyE_one (i := 9) (o := { dst := some 12, op := Op.buildSlice 82 3 #[(0, Operand.tmp 5), (1, Operand.tmp 8), (2, Operand.tmp 11)], type := 82, pos := "flow.go:265", after := #[{ on := 2, ground := Ground.data }, { on := 5, ground := Ground.data }, { on := 8, ground := Ground.data }], guard := none }) (by kernel_rfl) rfl (fun wy1 hE K hK => ?_)
  have c0 := cellb c0 hE
  have c1 := cellb c1 hE
  have c2 := cellb c2 hE
  have hbz1 := bthen hbz hE
  clear hE
  go_simp
  obtain ⟨wx1, hwz⟩ : ∃ v, v = wy1.alloc (Obj.cells #[.int .i64 0, .int .i64 0, .int .i64 0] 36) := ⟨_, rfl⟩
  rw [← hwz]
  have hl : Below wy1.heap.size wy1 wx1 := by rw [hwz]; exact below_new _ _
  have hcz1 := bthen hbz1 hl
  have iN : BlkI wx1 wy1.heap.size 36 [0, 0, 0] := by rw [hwz]; exact Blk.new _ _ _
  generalize wy1.heap.size = G at iN ⊢
  have c0 := cellb c0 hl
  have c1 := cellb c1 hl
  have c2 := cellb c2 hl
  clear hwz
  refine hK _ _ (fun _ => hl) ?_
  clear hK K hl
  try simp only [Act.put, List.setIfInBounds_toArray, List.set_cons_zero, List.set_cons_succ]
  refine wpAnyE_call (i := 10) (oi := { dst := some 13, op := Op.call { callee := Callee.value (Operand.func 19), args := #[Operand.tmp 12], argTypes := #[82] }, type := 36, pos := "flow.go:265", after := #[{ on := 9, ground := Ground.data }, { on := 8, ground := Ground.chain }], guard := none }) (fun w hE => ofPure (TF.out _ w ((BlkI.ints iN rfl).carry hE))) rfl (by kernel_rfl) (by kernel_rfl) (by kernel_rfl) (by kernel_rfl) (fun _ _ _ h => h) (by rfl) (fun w hE => by (try dsimp only); go_simp) ?_
  try simp only [Act.put, List.setIfInBounds_toArray, List.set_cons_zero, List.set_cons_succ]
  refine wpAnyE_take (i := 11) (oi := { dst := some 2, op := Op.assign (Operand.tmp 13), type := 36, pos := "flow.go:265", after := #[{ on := 10, ground := Ground.data }, { on := 10, ground := Ground.chain }, { on := 0, ground := Ground.phase }, { on := 1, ground := Ground.phase }, { on := 2, ground := Ground.phase }, { on := 3, ground := Ground.phase }, { on := 4, ground := Ground.phase }, { on := 5, ground := Ground.phase }, { on := 6, ground := Ground.phase }, { on := 7, ground := Ground.phase }, { on := 8, ground := Ground.phase }, { on := 9, ground := Ground.phase }, { on := 10, ground := Ground.phase }], guard := none }) (v := ?_) rfl (by kernel_rfl) (by kernel_rfl) (by kernel_rfl) (by kernel_rfl) (fun _ _ _ h => h) (Or.inl ⟨by rfl, ?_⟩) ?_
  rotate_left
  · (intro w hE; (try dsimp only); go_simp); (try with_reducible rfl)
  try simp only [Act.put, List.setIfInBounds_toArray, List.set_cons_zero, List.set_cons_succ]
  refine wpAnyE_done (by kernel_rfl) (fun wy2 hE => ?_) _
  have hbz2 := bthen hcz1 hE
  have c0 := cellb c0 hE
  have c1 := cellb c1 hE
  have c2 := cellb c2 hE
  have iN := iN.carry hE
  clear hE
  have hB := hbz2
  obtain ⟨W9, hW9⟩ : ∃ v, v = wy2 := ⟨_, rfl⟩
  rw [← hW9] at hB ⊢
  clear hW9 iN
  go_wp2
  go_ret
  exact ⟨rfl, hB⟩
set_option maxRecDepth 100000 in
set_option maxHeartbeats 1000000 in
theorem loss_any (a b c p : Int) (w : World) (hok : LsOk a b c) (hp : 0 ≤ p ∧ p ≤ 1000) :
    Calls Try.prog 42 #[.agg #[.int .i64 a, .int .i64 b, .int .i64 c], .int .i64 p] w fun r w' => r = .returned (.agg #[.int .i64 (losLo a b c p), .int .i64 (losHi a b c p)]) ∧ Below w.heap.size w w' := by
  obtain ⟨r1, r2, r3, r4⟩ := losN_rng hok hp
  by_cases h0 : p = 0
  · subst h0
    rw [show losLo a b c 0 = 0 from rfl, show losHi a b c 0 = 0 from rfl]
    clear r1 r2 r3 r4 hok hp
    go_enter Try.func42, Try.ntmps42
    go_upto_region 1 with fail
    obtain ⟨W1, hW1⟩ : ∃ v, v = World.alloc w (Obj.cells #[.int .i64 a, .int .i64 b, .int .i64 c] 48) := ⟨_, rfl⟩
    have kW1 : Below w.heap.size w W1 := by rw [hW1]; exact below_new _ _
    have iW1 : Blk W1 (w.heap.size) 48 [.int .i64 a, .int .i64 b, .int .i64 c] := by rw [hW1]; exact Blk.new _ _ _
    have sW1 : W1.heap.size = w.heap.size + 1 := by rw [hW1]; simp
    rw [← hW1]
    clear hW1
    obtain ⟨W2, hW2⟩ : ∃ v, v = World.alloc W1 (Obj.cells #[.int .i64 0, .int .i64 0] 45) := ⟨_, rfl⟩
    have kW2 : Below W1.heap.size W1 W2 := by rw [hW2]; exact below_new _ _
    have iW2 : Blk W2 (w.heap.size + 1) 45 [.int .i64 0, .int .i64 0] := by rw [hW2, ← sW1]; exact Blk.new _ _ _
    have sW2 : W2.heap.size = w.heap.size + 1 + 1 := by rw [hW2]; simp [sW1]
    rw [← hW2]
    clear hW2
    have hB := bthen kW1 kW2
    have c0 := iW2.cell (j := 0) (v := .int .i64 0) rfl
    have c1 := iW2.cell (j := 1) (v := .int .i64 0) rfl
    have f0 := iW2.frozen 0
    have f1 := iW2.frozen 1
    have iR := iW2.set2 (.int .i64 0) (.int .i64 0)
    have hB2 := (hB.setCell (p := ⟨w.heap.size + 1, 0, none⟩) (by simp only; omega) (.int .i64 0)).setCell (p := ⟨w.heap.size + 1, 1, none⟩) (by simp only; omega) (.int .i64 0)
    have y0 := iR.cell (j := 0) (v := .int .i64 0) rfl
    have y1 := iR.cell (j := 1) (v := .int .i64 0) rfl
    go_wp2_with fail
    exact bodyPost_ret (v := .agg #[.int .i64 0, .int .i64 0]) (by simp [results, Try.f42, go_sem, y0, y1]) rfl ⟨rfl, hB2⟩
  · have e1 : losLo a b c p = (losN a b c p).tdiv 1048576 := by unfold losLo; rw [if_neg h0]
    have e2 : losHi a b c p = (losN a b c p + 1048576 - 1).tdiv 1048576 := by unfold losHi; rw [if_neg h0]
    have hr := los_rng hok hp
    have ha := hok.a
    have k1 : IntKind.i64.wrap (a * 1024) = a * 1024 := IntWalk.i64_in _ (by omega)
    have k2 : IntKind.i64.wrap (a * 1024 * 1024) = a * 1024 * 1024 := IntWalk.i64_in _ (by omega)
    have k3 : IntKind.i64.wrap (b * p) = b * p := IntWalk.i64_in _ (by omega)
    have k4 : IntKind.i64.wrap (b * p * 1024) = b * p * 1024 := IntWalk.i64_in _ (by omega)
    have k5 : IntKind.i64.wrap (a * 1024 * 1024 + b * p * 1024) = a * 1024 * 1024 + b * p * 1024 := IntWalk.i64_in _ (by omega)
    have k6 : IntKind.i64.wrap (c * p) = c * p := IntWalk.i64_in _ (by omega)
    have k7 : IntKind.i64.wrap (c * p * p) = c * p * p := IntWalk.i64_in _ (by omega)
    have k8 : IntKind.i64.wrap (a * 1024 * 1024 + b * p * 1024 + c * p * p) = losN a b c p := by
      have : a * 1024 * 1024 + b * p * 1024 + c * p * p = losN a b c p := by unfold losN; omega
      rw [this]; exact IntWalk.i64_in _ (by omega)
    obtain ⟨N, hN⟩ : ∃ n, n = losN a b c p := ⟨_, rfl⟩
    rw [← hN] at e1 e2 k8 r4
    have k9 : IntKind.i64.wrap (N + 1048576) = N + 1048576 := IntWalk.i64_in _ (by omega)
    have k10 : IntKind.i64.wrap (N + 1048576 - 1) = N + 1048576 - 1 := IntWalk.i64_in _ (by omega)
    have k11 : IntKind.i64.wrap (N.tdiv 1048576) = losLo a b c p := by rw [← e1]; exact IntWalk.i64_in _ (by omega)
    have k12 : IntKind.i64.wrap ((N + 1048576 - 1).tdiv 1048576) = losHi a b c p := by rw [← e2]; exact IntWalk.i64_in _ (by omega)
    obtain ⟨LO, hLO⟩ : ∃ n, n = losLo a b c p := ⟨_, rfl⟩
    obtain ⟨HI, hHI⟩ : ∃ n, n = losHi a b c p := ⟨_, rfl⟩
    rw [← hLO] at k11 ⊢
    rw [← hHI] at k12 ⊢
    have g0 : (p == 0) = false := by rw [beq_eq_false_iff_ne]; exact h0
    clear e1 e2 hr hN hLO hHI r1 r2 r3 r4 hok hp ha
    go_enter Try.func42, Try.ntmps42
    go_upto_region 1 with fail
    obtain ⟨W1, hW1⟩ : ∃ v, v = World.alloc w (Obj.cells #[.int .i64 a, .int .i64 b, .int .i64 c] 48) := ⟨_, rfl⟩
    have kW1 : Below w.heap.size w W1 := by rw [hW1]; exact below_new _ _
    have iW1 : Blk W1 (w.heap.size) 48 [.int .i64 a, .int .i64 b, .int .i64 c] := by rw [hW1]; exact Blk.new _ _ _
    have sW1 : W1.heap.size = w.heap.size + 1 := by rw [hW1]; simp
    rw [← hW1]
    clear hW1
    obtain ⟨W2, hW2⟩ : ∃ v, v = World.alloc W1 (Obj.cells #[.int .i64 0, .int .i64 0] 45) := ⟨_, rfl⟩
    have kW2 : Below W1.heap.size W1 W2 := by rw [hW2]; exact below_new _ _
    have iW2 : Blk W2 (w.heap.size + 1) 45 [.int .i64 0, .int .i64 0] := by rw [hW2, ← sW1]; exact Blk.new _ _ _
    have sW2 : W2.heap.size = w.heap.size + 1 + 1 := by rw [hW2]; simp [sW1]
    rw [← hW2]
    clear hW2
    have hB := bthen kW1 kW2
    have i1 := iW1.carry kW2
    have a0 := i1.cell (j := 0) (v := .int .i64 a) rfl
    have a1 := i1.cell (j := 1) (v := .int .i64 b) rfl
    have a2 := i1.cell (j := 2) (v := .int .i64 c) rfl
    have c0 := iW2.cell (j := 0) (v := .int .i64 0) rfl
    have c1 := iW2.cell (j := 1) (v := .int .i64 0) rfl
    have f0 := iW2.frozen 0
    have f1 := iW2.frozen 1
    have iR := iW2.set2 (.int .i64 LO) (.int .i64 HI)
    have hB2 := (hB.setCell (p := ⟨w.heap.size + 1, 0, none⟩) (by simp only; omega) (.int .i64 LO)).setCell (p := ⟨w.heap.size + 1, 1, none⟩) (by simp only; omega) (.int .i64 HI)
    have y0 := iR.cell (j := 0) (v := .int .i64 LO) rfl
    have y1 := iR.cell (j := 1) (v := .int .i64 HI) rfl
    clear i1 iW1 iW2 kW1 kW2 sW1 sW2 hB iR
    go_wp2_with fail
    exact bodyPost_ret (v := .agg #[.int .i64 LO, .int .i64 HI]) (by simp [results, Try.f42, go_sem, y0, y1]) rfl ⟨rfl, hB2⟩
set_option maxRecDepth 100000 in
set_option maxHeartbeats 1000000 in
theorem delivered_any (a b c p : Int) (w : World) (hok : LsOk a b c) (hp : 0 ≤ p ∧ p ≤ 1000) :
    Calls Try.prog 40 #[.agg #[.int .i64 a, .int .i64 b, .int .i64 c], .int .i64 p] w fun r w' => r = .returned (.agg #[.int .i64 (dlLo a b c p), .int .i64 (dlHi a b c p)]) ∧ Below w.heap.size w w' := by
  have hr := los_rng hok hp
  have TL := Lib.hid (fun W => loss_any a b c p W hok hp)
  unfold dlLo dlHi
  obtain ⟨LO, hLO⟩ : ∃ n, n = losLo a b c p := ⟨_, rfl⟩
  obtain ⟨HI, hHI⟩ : ∃ n, n = losHi a b c p := ⟨_, rfl⟩
  rw [← hLO] at hr TL ⊢
  rw [← hHI] at hr TL ⊢
  have k1 : IntKind.i64.wrap (p - HI) = p - HI := IntWalk.i64_in _ (by omega)
  have k2 : IntKind.i64.wrap (p - LO) = p - LO := IntWalk.i64_in _ (by omega)
  clear hLO hHI hr hok hp
  go_enter Try.func40, Try.ntmps40
  go_upto_region 1 with fail
  obtain ⟨W1, hW1⟩ : ∃ v, v = World.alloc w (Obj.cells #[.int .i64 a, .int .i64 b, .int .i64 c] 48) := ⟨_, rfl⟩
  have kW1 : Below w.heap.size w W1 := by rw [hW1]; exact below_new _ _
  have iW1 : Blk W1 (w.heap.size) 48 [.int .i64 a, .int .i64 b, .int .i64 c] := by rw [hW1]; exact Blk.new _ _ _
  have sW1 : W1.heap.size = w.heap.size + 1 := by rw [hW1]; simp
  rw [← hW1]
  clear hW1
  obtain ⟨W2, hW2⟩ : ∃ v, v = World.alloc W1 (Obj.cells #[.int .i64 0, .int .i64 0] 45) := ⟨_, rfl⟩
  have kW2 : Below W1.heap.size W1 W2 := by rw [hW2]; exact below_new _ _
  have iW2 : Blk W2 (w.heap.size + 1) 45 [.int .i64 0, .int .i64 0] := by rw [hW2, ← sW1]; exact Blk.new _ _ _
  have sW2 : W2.heap.size = w.heap.size + 1 + 1 := by rw [hW2]; simp [sW1]
  rw [← hW2]
  clear hW2
  have hB := bthen kW1 kW2
  have i1 := iW1.carry kW2
  have a0 := i1.cell (j := 0) (v := .int .i64 a) rfl
  have a1 := i1.cell (j := 1) (v := .int .i64 b) rfl
  have a2 := i1.cell (j := 2) (v := .int .i64 c) rfl
  clear kW1 kW2 sW1 sW2 iW1 i1
  go_wp2_with fail
  refine (TL.out _).mono ?_
  rintro e w3 ⟨rfl, hb3⟩
  have iR := iW2.carry hb3
  have hB := bthen hB hb3
  clear iW2 hb3 a0 a1 a2 TL
  go_upto_region 2 with fail
  obtain ⟨W4, hW4⟩ : ∃ v, v = World.alloc w3 (Obj.cells #[.int .i64 LO, .int .i64 HI] 45) := ⟨_, rfl⟩
  have kW4 : Below w3.heap.size w3 W4 := by rw [hW4]; exact below_new _ _
  have iW4 : Blk W4 (w3.heap.size) 45 [.int .i64 LO, .int .i64 HI] := by rw [hW4]; exact Blk.new _ _ _
  have sW4 : W4.heap.size = w3.heap.size + 1 := by rw [hW4]; simp
  rw [← hW4]
  clear hW4
  have iR := iR.carry kW4
  have hB := bthen hB kW4
  have d0 := iW4.cell (j := 0) (v := .int .i64 LO) rfl
  have d1 := iW4.cell (j := 1) (v := .int .i64 HI) rfl
  have c0 := iR.cell (j := 0) (v := .int .i64 0) rfl
  have c1 := iR.cell (j := 1) (v := .int .i64 0) rfl
  have f0 := iR.frozen 0
  have f1 := iR.frozen 1
  have iZ := iR.set2 (.int .i64 (max 0 (p - HI))) (.int .i64 (max 0 (p - LO)))
  have hB2 := (hB.setCell (p := ⟨w.heap.size + 1, 0, none⟩) (by simp only; omega) (.int .i64 (max 0 (p - HI)))).setCell (p := ⟨w.heap.size + 1, 1, none⟩) (by simp only; omega) (.int .i64 (max 0 (p - LO)))
  have y0 := iZ.cell (j := 0) (v := .int .i64 (max 0 (p - HI))) rfl
  have y1 := iZ.cell (j := 1) (v := .int .i64 (max 0 (p - LO))) rfl
  clear iR hB iW4 kW4 sW4 iZ
  go_wp2_with fail
  exact bodyPost_ret (v := .agg #[.int .i64 (max 0 (p - HI)), .int .i64 (max 0 (p - LO))]) (by simp [results, Try.f40, go_sem, y0, y1]) rfl ⟨rfl, hB2⟩
set_option maxRecDepth 100000 in
set_option maxHeartbeats 1000000 in
theorem checkLoss_ok (a b c p : Int) (w : World) (hok : LsOk a b c) (hp : 0 ≤ p ∧ p ≤ 1000) : Calls Try.prog 41 #[.agg #[.int .i64 a, .int .i64 b, .int .i64 c], .int .i64 p] w fun r w' => r = .returned (.int .i64 0) ∧ Below w.heap.size w w' := by
  have TC := Lib.hid (fun W => CheckLossesF_ok a b c W hok)
  have T2 := Lib.hid (fun W => within0F hp W)
  clear hok hp
  go_enter Try.func41, Try.ntmps41
  go_upto_region 1 with fail
  obtain ⟨W1, hW1⟩ : ∃ v, v = World.alloc w (Obj.cells #[.int .i64 a, .int .i64 b, .int .i64 c] 48) := ⟨_, rfl⟩
  have kW1 : Below w.heap.size w W1 := by rw [hW1]; exact below_new _ _
  have iW1 : Blk W1 (w.heap.size) 48 [.int .i64 a, .int .i64 b, .int .i64 c] := by rw [hW1]; exact Blk.new _ _ _
  have sW1 : W1.heap.size = w.heap.size + 1 := by rw [hW1]; simp
  rw [← hW1]
  clear hW1
  have a0 := iW1.cell (j := 0) (v := .int .i64 a) rfl
  have a1 := iW1.cell (j := 1) (v := .int .i64 b) rfl
  have a2 := iW1.cell (j := 2) (v := .int .i64 c) rfl
  have hB := kW1
  clear kW1 sW1 iW1
  go_wp2_with fail
  refine (TC.out _).mono ?_
  rintro e w3 ⟨rfl, hb3⟩
  have hB := bthen hB hb3
  clear hb3 a0 a1 a2
  go_wp2_with fail
  refine (T2.out _).mono ?_
  rintro e w4 ⟨rfl, rfl⟩
  go_wp2_with fail
  refine (zero2F _ _ (Ints.lit w3 _ [0, 0] 2 rfl)).mono ?_
  rintro e w4 ⟨rfl, rfl⟩
  go_wp2
  go_ret
  exact ⟨rfl, bthen hB (below_new _ _)⟩
set_option maxRecDepth 100000 in
set_option maxHeartbeats 1000000 in
theorem Loss_any (a b c p : Int) (w : World) (hok : LsOk a b c) (hp : 0 ≤ p ∧ p ≤ 1000) : Calls Try.prog 13 #[.agg #[.int .i64 a, .int .i64 b, .int .i64 c], .int .i64 p] w fun r w' => r = .returned (.tuple #[.agg #[.int .i64 (losLo a b c p), .int .i64 (losHi a b c p)], .int .i64 0]) ∧ Below w.heap.size w w' := by
  have TC := Lib.hid (fun W => checkLoss_ok a b c p W hok hp)
  have TL := Lib.hid (fun W => loss_any a b c p W hok hp)
  obtain ⟨LO, hLO⟩ : ∃ n, n = losLo a b c p := ⟨_, rfl⟩
  obtain ⟨HI, hHI⟩ : ∃ n, n = losHi a b c p := ⟨_, rfl⟩
  rw [← hLO] at TL ⊢
  rw [← hHI] at TL ⊢
  clear hLO hHI hok hp
  go_enter Try.func13, Try.ntmps13
  go_upto_region 1 with fail
  obtain ⟨W1, hW1⟩ : ∃ v, v = World.alloc w (Obj.cells #[.int .i64 a, .int .i64 b, .int .i64 c] 48) := ⟨_, rfl⟩
  have kW1 : Below w.heap.size w W1 := by rw [hW1]; exact below_new _ _
  have iW1 : Blk W1 (w.heap.size) 48 [.int .i64 a, .int .i64 b, .int .i64 c] := by rw [hW1]; exact Blk.new _ _ _
  have sW1 : W1.heap.size = w.heap.size + 1 := by rw [hW1]; simp
  rw [← hW1]
  clear hW1
  obtain ⟨W2, hW2⟩ : ∃ v, v = World.alloc W1 (Obj.cells #[.int .i64 0, .int .i64 0] 45) := ⟨_, rfl⟩
  have kW2 : Below W1.heap.size W1 W2 := by rw [hW2]; exact below_new _ _
  have iW2 : Blk W2 (w.heap.size + 1) 45 [.int .i64 0, .int .i64 0] := by rw [hW2, ← sW1]; exact Blk.new _ _ _
  have sW2 : W2.heap.size = w.heap.size + 1 + 1 := by rw [hW2]; simp [sW1]
  rw [← hW2]
  clear hW2
  have hB := bthen kW1 kW2
  have i1 := iW1.carry kW2
  have a0 := i1.cell (j := 0) (v := .int .i64 a) rfl
  have a1 := i1.cell (j := 1) (v := .int .i64 b) rfl
  have a2 := i1.cell (j := 2) (v := .int .i64 c) rfl
  clear kW1 kW2 sW1 sW2 iW1
  go_wp2_with fail
  refine (TC.out _).mono ?_
  rintro e w3 ⟨rfl, hb3⟩
  have iR := iW2.carry hb3
  have i1 := i1.carry hb3
  have hB := bthen hB hb3
  clear iW2 hb3 TC
  have a0 := i1.cell (j := 0) (v := .int .i64 a) rfl
  have a1 := i1.cell (j := 1) (v := .int .i64 b) rfl
  have a2 := i1.cell (j := 2) (v := .int .i64 c) rfl
  go_wp2_with fail
  refine (TL.out _).mono ?_
  rintro e w4 ⟨rfl, hb4⟩
  have iR := iR.carry hb4
  have hB := bthen hB hb4
  have c0 := iR.cell (j := 0) (v := .int .i64 0) rfl
  have c1 := iR.cell (j := 1) (v := .int .i64 0) rfl
  have f0 := iR.frozen 0
  have f1 := iR.frozen 1
  have iZ := iR.set2 (.int .i64 LO) (.int .i64 HI)
  have hB2 := (hB.setCell (p := ⟨w.heap.size + 1, 0, none⟩) (by simp only; omega) (.int .i64 LO)).setCell (p := ⟨w.heap.size + 1, 1, none⟩) (by simp only; omega) (.int .i64 HI)
  have y0 := iZ.cell (j := 0) (v := .int .i64 LO) rfl
  have y1 := iZ.cell (j := 1) (v := .int .i64 HI) rfl
  clear iR hB iZ hb4 TL i1 a0 a1 a2
  go_wp2_with fail
  exact bodyPost_ret (v := .tuple #[.agg #[.int .i64 LO, .int .i64 HI], .int .i64 0]) (by simp [results, Try.f13, go_sem, y0, y1]) rfl ⟨rfl, hB2⟩
end Go.Proofs.Ytipmjjnhdjcoiaa

/- The reference of chapter 4: checks, sign, strength, turned. -/
import Derived.Test.YtfeajpkjjlddlaaGreatDoorHarR
namespace Go.Proofs.YtfeajpkjjlddlaaGreatDoor
set_option linter.unusedSimpArgs false
set_option linter.unusedVariables false
open Go.RowKit

set_option maxHeartbeats 400000 in
theorem WhenR_any (c : Bool) (e : Int) (w : World) :
    Calls Tryz.prog 51 #[.bool c, .int .i64 e] w fun r w' => r = .returned (.int .i64 (whenE c e)) ∧ w = w' := by
  cases c
  · go_enter Tryz.func51, Tryz.ntmps51
    go_wp2
    go_ret
    exact ⟨rfl, rfl⟩
  · go_enter Tryz.func51, Tryz.ntmps51
    go_wp2
    go_ret
    exact ⟨rfl, rfl⟩

set_option maxHeartbeats 400000 in
theorem CheckRange_any (n lo hi : Int) (w : World) :
    Calls Tryz.prog 14 #[.int .i64 n, .int .i64 lo, .int .i64 hi] w fun r w' => r = .returned (.int .i64 (withinE n lo hi)) ∧ w = w' := by
  by_cases h1 : n < lo
  · go_enter Tryz.func14, Tryz.ntmps14
    go_wp2_with fail
    refine (WhenR_any _ _ _).mono ?_
    rintro e w' ⟨rfl, rfl⟩
    go_wp2
    go_ret
    exact ⟨by simp [whenE, withinE, h1], rfl⟩
  · by_cases h2 : hi < n
    all_goals
      go_enter Tryz.func14, Tryz.ntmps14
      go_wp2_with fail
      refine (WhenR_any _ _ _).mono ?_
      rintro e w' ⟨rfl, rfl⟩
      go_wp2
      go_ret
      exact ⟨by simp [whenE, withinE, h1, h2], rfl⟩

set_option maxHeartbeats 400000 in
theorem FirstR_any (v : Value) (l : List Int) (w : World) (hl : l.length ≤ 1000000000) (hv : Ints w v l) :
    Calls Tryz.prog 50 #[v] w fun r w' => r = .returned (.int .i64 (firstE l)) ∧ w = w' := by
  obtain ⟨a, cap, rfl, hc, hv⟩ := hv
  rcases Nat.eq_zero_or_pos l.length with h0 | h0
  · obtain rfl : l = [] := List.length_eq_zero_iff.1 h0
    go_enter Tryz.func50, Tryz.ntmps50
    go_wp2
    go_loop [3] (fun i => i = .int .i64 0) (fun _ => 0)
    case atStart => rfl
    case round =>
      obtain rfl := hrel
      go_wp2
      go_ret
      exact ⟨rfl, rfl⟩
  · obtain ⟨b, off, rfl, hcs⟩ := hv h0
    clear hv
    go_enter Tryz.func50, Tryz.ntmps50
    go_wp2
    go_loop [3] (fun i => ∃ k : Nat, k ≤ l.length ∧ i = .int .i64 k ∧ firstE (l.take k) = 0) (fun i => l.length - (intOf i).toNat)
    case atStart => exact ⟨0, by omega, rfl, rfl⟩
    case round =>
      obtain ⟨k, hk, rfl, hf⟩ := hrel
      by_cases hlt : k < l.length
      · have hcell := hcs k hlt
        have hs := firstE_take_succ l k hlt hf
        clear hcs
        generalize l[k]?.getD 0 = x at hcell hs
        have HS := Lib.hid hs
        clear hs hf
        by_cases hz : x = 0
        · subst hz
          go_wp2
          go_round
          case rel => exact ⟨k + 1, by omega, by go_num, HS.out⟩
          case measure => simp [intOf]; omega
        · go_wp2
          go_ret
          exact ⟨ret_int (by rw [firstE_of_take l (k+1) (by rw [HS.out]; exact hz), HS.out]), rfl⟩
      · have HF := Lib.hid hf
        clear hf
        go_wp2
        go_ret
        have h := HF.out
        rw [List.take_of_length_le (by omega)] at h
        exact ⟨ret_int h.symm, rfl⟩

set_option maxRecDepth 100000 in
set_option maxHeartbeats 2000000 in
theorem CheckCycloR_any (x0 x1 x2 x3 : Int) (w : World) :
    Calls Tryz.prog 46 #[.agg #[.int .i64 x0, .int .i64 x1, .int .i64 x2, .int .i64 x3]] w fun e w' => e = .returned (.int .i64 (cycE x0 x1 x2 x3)) ∧ Below w.heap.size w w' := by
  have T0 := Lib.hid (fun W => CheckRange_any x0 (-1048576) 1048576 W)
  have T1 := Lib.hid (fun W => CheckRange_any x1 (-1048576) 1048576 W)
  have T2 := Lib.hid (fun W => CheckRange_any x2 (-1048576) 1048576 W)
  have T3 := Lib.hid (fun W => CheckRange_any x3 (-1048576) 1048576 W)
  have hsp : cycE x0 x1 x2 x3 = firstE [withinE x0 (-1048576) 1048576, withinE x1 (-1048576) 1048576, withinE x2 (-1048576) 1048576, withinE x3 (-1048576) 1048576] := rfl
  rw [hsp]
  clear hsp
  generalize withinE x0 (-1048576) 1048576 = E0 at T0 ⊢
  generalize withinE x1 (-1048576) 1048576 = E1 at T1 ⊢
  generalize withinE x2 (-1048576) 1048576 = E2 at T2 ⊢
  generalize withinE x3 (-1048576) 1048576 = E3 at T3 ⊢
  have TF := Lib.hid (fun (u : Value) (W : World) (h : Ints W u [E0, E1, E2, E3]) => FirstR_any u [E0, E1, E2, E3] W (by simp [maxLen]) h)
  go_enter Tryz.func46, Tryz.ntmps46
  go_upto_region 1 with fail
  obtain ⟨W1, hW1⟩ : ∃ v, v = World.alloc w (Obj.cells #[.int .i64 x0, .int .i64 x1, .int .i64 x2, .int .i64 x3] 25) := ⟨_, rfl⟩
  have kW1 : Below w.heap.size w W1 := by rw [hW1]; exact below_new _ _
  have iW1 : Blk W1 (w.heap.size) 25 [.int .i64 x0, .int .i64 x1, .int .i64 x2, .int .i64 x3] := by rw [hW1]; exact Blk.new _ _ _
  have sW1 : W1.heap.size = w.heap.size + 1 := by rw [hW1]; simp
  rw [← hW1]
  clear hW1
  clear sW1
  have a0 := iW1.cell (j := 0) (v := .int .i64 x0) rfl
  have a1 := iW1.cell (j := 1) (v := .int .i64 x1) rfl
  have a2 := iW1.cell (j := 2) (v := .int .i64 x2) rfl
  have a3 := iW1.cell (j := 3) (v := .int .i64 x3) rfl
  refine wp_region_E 18 (by kernel_rfl) ?_
  obtain ⟨wz, hwz⟩ : ∃ v, v = W1.drew := ⟨_, rfl⟩
  rw [← hwz]
  have hlz : Below W1.heap.size W1 wz := by rw [hwz]; exact (Below.refl _ _).drew
  have hbz := bthen kW1 hlz
  have a0 := cellb a0 hlz
  have a1 := cellb a1 hlz
  have a2 := cellb a2 hlz
  have a3 := cellb a3 hlz
  clear hwz hlz
  refine wpAnyE_take (i := 0) (oi := { dst := some 3, op := Op.fieldAddr 25 (Operand.tmp 1) 0, type := 0, pos := "ref.go:70", after := #[], guard := none }) (v := ?_) rfl (by kernel_rfl) (by kernel_rfl) (by kernel_rfl) (by kernel_rfl) (fun _ _ _ h => h) (Or.inl ⟨by rfl, ?_⟩) ?_
  rotate_left
  · (intro w hE; have a0 := cellb a0 hE; have a1 := cellb a1 hE; have a2 := cellb a2 hE; have a3 := cellb a3 hE; (try dsimp only); go_simp); (try with_reducible rfl)
  try simp only [Act.put, List.setIfInBounds_toArray, List.set_cons_zero, List.set_cons_succ]
  refine wpAnyE_take (i := 1) (oi := { dst := some 4, op := Op.fieldAddr 23 (Operand.tmp 3) 0, type := 0, pos := "ref.go:70", after := #[{ on := 0, ground := Ground.data }], guard := none }) (v := ?_) rfl (by kernel_rfl) (by kernel_rfl) (by kernel_rfl) (by kernel_rfl) (fun _ _ _ h => h) (Or.inl ⟨by rfl, ?_⟩) ?_
  rotate_left
  · (intro w hE; have a0 := cellb a0 hE; have a1 := cellb a1 hE; have a2 := cellb a2 hE; have a3 := cellb a3 hE; (try dsimp only); go_simp); (try with_reducible rfl)
  try simp only [Act.put, List.setIfInBounds_toArray, List.set_cons_zero, List.set_cons_succ]
  refine wpAnyE_take (i := 2) (oi := { dst := some 5, op := Op.load 3 (Operand.tmp 4), type := 3, pos := "ref.go:70", after := #[{ on := 1, ground := Ground.data }], guard := none }) (v := ?_) rfl (by kernel_rfl) (by kernel_rfl) (by kernel_rfl) (by kernel_rfl) (fun _ _ _ h => h) (Or.inl ⟨by rfl, ?_⟩) ?_
  rotate_left
  · (intro w hE; have a0 := cellb a0 hE; have a1 := cellb a1 hE; have a2 := cellb a2 hE; have a3 := cellb a3 hE; (try dsimp only); go_simp); (try with_reducible rfl)
  try simp only [Act.put, List.setIfInBounds_toArray, List.set_cons_zero, List.set_cons_succ]
  refine wpAnyE_take (i := 4) (oi := { dst := some 7, op := Op.fieldAddr 25 (Operand.tmp 1) 0, type := 0, pos := "ref.go:70", after := #[], guard := none }) (v := ?_) rfl (by kernel_rfl) (by kernel_rfl) (by kernel_rfl) (by kernel_rfl) (fun _ _ _ h => h) (Or.inl ⟨by rfl, ?_⟩) ?_
  rotate_left
  · (intro w hE; have a0 := cellb a0 hE; have a1 := cellb a1 hE; have a2 := cellb a2 hE; have a3 := cellb a3 hE; (try dsimp only); go_simp); (try with_reducible rfl)
  try simp only [Act.put, List.setIfInBounds_toArray, List.set_cons_zero, List.set_cons_succ]
  refine wpAnyE_take (i := 5) (oi := { dst := some 8, op := Op.fieldAddr 23 (Operand.tmp 7) 1, type := 0, pos := "ref.go:70", after := #[{ on := 4, ground := Ground.data }], guard := none }) (v := ?_) rfl (by kernel_rfl) (by kernel_rfl) (by kernel_rfl) (by kernel_rfl) (fun _ _ _ h => h) (Or.inl ⟨by rfl, ?_⟩) ?_
  rotate_left
  · (intro w hE; have a0 := cellb a0 hE; have a1 := cellb a1 hE; have a2 := cellb a2 hE; have a3 := cellb a3 hE; (try dsimp only); go_simp); (try with_reducible rfl)
  try simp only [Act.put, List.setIfInBounds_toArray, List.set_cons_zero, List.set_cons_succ]
  refine wpAnyE_take (i := 6) (oi := { dst := some 9, op := Op.load 3 (Operand.tmp 8), type := 3, pos := "ref.go:70", after := #[{ on := 5, ground := Ground.data }], guard := none }) (v := ?_) rfl (by kernel_rfl) (by kernel_rfl) (by kernel_rfl) (by kernel_rfl) (fun _ _ _ h => h) (Or.inl ⟨by rfl, ?_⟩) ?_
  rotate_left
  · (intro w hE; have a0 := cellb a0 hE; have a1 := cellb a1 hE; have a2 := cellb a2 hE; have a3 := cellb a3 hE; (try dsimp only); go_simp); (try with_reducible rfl)
  try simp only [Act.put, List.setIfInBounds_toArray, List.set_cons_zero, List.set_cons_succ]
  refine wpAnyE_take (i := 8) (oi := { dst := some 11, op := Op.fieldAddr 25 (Operand.tmp 1) 1, type := 0, pos := "ref.go:70", after := #[], guard := none }) (v := ?_) rfl (by kernel_rfl) (by kernel_rfl) (by kernel_rfl) (by kernel_rfl) (fun _ _ _ h => h) (Or.inl ⟨by rfl, ?_⟩) ?_
  rotate_left
  · (intro w hE; have a0 := cellb a0 hE; have a1 := cellb a1 hE; have a2 := cellb a2 hE; have a3 := cellb a3 hE; (try dsimp only); go_simp); (try with_reducible rfl)
  try simp only [Act.put, List.setIfInBounds_toArray, List.set_cons_zero, List.set_cons_succ]
  refine wpAnyE_take (i := 9) (oi := { dst := some 12, op := Op.fieldAddr 23 (Operand.tmp 11) 0, type := 0, pos := "ref.go:70", after := #[{ on := 8, ground := Ground.data }], guard := none }) (v := ?_) rfl (by kernel_rfl) (by kernel_rfl) (by kernel_rfl) (by kernel_rfl) (fun _ _ _ h => h) (Or.inl ⟨by rfl, ?_⟩) ?_
  rotate_left
  · (intro w hE; have a0 := cellb a0 hE; have a1 := cellb a1 hE; have a2 := cellb a2 hE; have a3 := cellb a3 hE; (try dsimp only); go_simp); (try with_reducible rfl)
  try simp only [Act.put, List.setIfInBounds_toArray, List.set_cons_zero, List.set_cons_succ]
  refine wpAnyE_take (i := 10) (oi := { dst := some 13, op := Op.load 3 (Operand.tmp 12), type := 3, pos := "ref.go:70", after := #[{ on := 9, ground := Ground.data }], guard := none }) (v := ?_) rfl (by kernel_rfl) (by kernel_rfl) (by kernel_rfl) (by kernel_rfl) (fun _ _ _ h => h) (Or.inl ⟨by rfl, ?_⟩) ?_
  rotate_left
  · (intro w hE; have a0 := cellb a0 hE; have a1 := cellb a1 hE; have a2 := cellb a2 hE; have a3 := cellb a3 hE; (try dsimp only); go_simp); (try with_reducible rfl)
  try simp only [Act.put, List.setIfInBounds_toArray, List.set_cons_zero, List.set_cons_succ]
  refine wpAnyE_take (i := 12) (oi := { dst := some 15, op := Op.fieldAddr 25 (Operand.tmp 1) 1, type := 0, pos := "ref.go:70", after := #[], guard := none }) (v := ?_) rfl (by kernel_rfl) (by kernel_rfl) (by kernel_rfl) (by kernel_rfl) (fun _ _ _ h => h) (Or.inl ⟨by rfl, ?_⟩) ?_
  rotate_left
  · (intro w hE; have a0 := cellb a0 hE; have a1 := cellb a1 hE; have a2 := cellb a2 hE; have a3 := cellb a3 hE; (try dsimp only); go_simp); (try with_reducible rfl)
  try simp only [Act.put, List.setIfInBounds_toArray, List.set_cons_zero, List.set_cons_succ]
  refine wpAnyE_take (i := 13) (oi := { dst := some 16, op := Op.fieldAddr 23 (Operand.tmp 15) 1, type := 0, pos := "ref.go:70", after := #[{ on := 12, ground := Ground.data }], guard := none }) (v := ?_) rfl (by kernel_rfl) (by kernel_rfl) (by kernel_rfl) (by kernel_rfl) (fun _ _ _ h => h) (Or.inl ⟨by rfl, ?_⟩) ?_
  rotate_left
  · (intro w hE; have a0 := cellb a0 hE; have a1 := cellb a1 hE; have a2 := cellb a2 hE; have a3 := cellb a3 hE; (try dsimp only); go_simp); (try with_reducible rfl)
  try simp only [Act.put, List.setIfInBounds_toArray, List.set_cons_zero, List.set_cons_succ]
  refine wpAnyE_take (i := 14) (oi := { dst := some 17, op := Op.load 3 (Operand.tmp 16), type := 3, pos := "ref.go:70", after := #[{ on := 13, ground := Ground.data }], guard := none }) (v := ?_) rfl (by kernel_rfl) (by kernel_rfl) (by kernel_rfl) (by kernel_rfl) (fun _ _ _ h => h) (Or.inl ⟨by rfl, ?_⟩) ?_
  rotate_left
  · (intro w hE; have a0 := cellb a0 hE; have a1 := cellb a1 hE; have a2 := cellb a2 hE; have a3 := cellb a3 hE; (try dsimp only); go_simp); (try with_reducible rfl)
  try simp only [Act.put, List.setIfInBounds_toArray, List.set_cons_zero, List.set_cons_succ]
  refine wpAnyE_call (i := 3) (oi := { dst := some 6, op := Op.call { callee := Callee.value (Operand.func 14), args := #[Operand.tmp 5, Operand.const (Value.int IntKind.i64 (-1048576)), Operand.const (Value.int IntKind.i64 1048576)], argTypes := #[3, 3, 3] }, type := 3, pos := "ref.go:70", after := #[{ on := 2, ground := Ground.data }], guard := none }) (fun w hE => ofPure (T0.out w)) rfl (by kernel_rfl) (by kernel_rfl) (by kernel_rfl) (by kernel_rfl) (fun _ _ _ h => h) (by rfl) (fun w hE => by (try dsimp only); go_simp) ?_
  try simp only [Act.put, List.setIfInBounds_toArray, List.set_cons_zero, List.set_cons_succ]
  refine wpAnyE_call (i := 7) (oi := { dst := some 10, op := Op.call { callee := Callee.value (Operand.func 14), args := #[Operand.tmp 9, Operand.const (Value.int IntKind.i64 (-1048576)), Operand.const (Value.int IntKind.i64 1048576)], argTypes := #[3, 3, 3] }, type := 3, pos := "ref.go:70", after := #[{ on := 6, ground := Ground.data }, { on := 3, ground := Ground.chain }], guard := none }) (fun w hE => ofPure (T1.out w)) rfl (by kernel_rfl) (by kernel_rfl) (by kernel_rfl) (by kernel_rfl) (fun _ _ _ h => h) (by rfl) (fun w hE => by (try dsimp only); go_simp) ?_
  try simp only [Act.put, List.setIfInBounds_toArray, List.set_cons_zero, List.set_cons_succ]
  refine wpAnyE_call (i := 11) (oi := { dst := some 14, op := Op.call { callee := Callee.value (Operand.func 14), args := #[Operand.tmp 13, Operand.const (Value.int IntKind.i64 (-1048576)), Operand.const (Value.int IntKind.i64 1048576)], argTypes := #[3, 3, 3] }, type := 3, pos := "ref.go:70", after := #[{ on := 10, ground := Ground.data }, { on := 7, ground := Ground.chain }], guard := none }) (fun w hE => ofPure (T2.out w)) rfl (by kernel_rfl) (by kernel_rfl) (by kernel_rfl) (by kernel_rfl) (fun _ _ _ h => h) (by rfl) (fun w hE => by (try dsimp only); go_simp) ?_
  try simp only [Act.put, List.setIfInBounds_toArray, List.set_cons_zero, List.set_cons_succ]
  refine wpAnyE_call (i := 15) (oi := { dst := some 18, op := Op.call { callee := Callee.value (Operand.func 14), args := #[Operand.tmp 17, Operand.const (Value.int IntKind.i64 (-1048576)), Operand.const (Value.int IntKind.i64 1048576)], argTypes := #[3, 3, 3] }, type := 3, pos := "ref.go:70", after := #[{ on := 14, ground := Ground.data }, { on := 11, ground := Ground.chain }], guard := none }) (fun w hE => ofPure (T3.out w)) rfl (by kernel_rfl) (by kernel_rfl) (by kernel_rfl) (by kernel_rfl) (fun _ _ _ h => h) (by rfl) (fun w hE => by (try dsimp only); go_simp) ?_
  try simp only [Act.put, List.setIfInBounds_toArray, List.set_cons_zero, List.set_cons_succ]
  refine wpAnyE_one (i := 16) (o := { dst := some 19, op := Op.buildSlice 59 4 #[(0, Operand.tmp 6), (1, Operand.tmp 10), (2, Operand.tmp 14), (3, Operand.tmp 18)], type := 59, pos := "ref.go:70", after := #[{ on := 3, ground := Ground.data }, { on := 7, ground := Ground.data }, { on := 11, ground := Ground.data }, { on := 15, ground := Ground.data }], guard := none }) (by kernel_rfl) rfl (fun wy1 hE K hK => ?_)
  have a0 := cellb a0 hE
  have a1 := cellb a1 hE
  have a2 := cellb a2 hE
  have a3 := cellb a3 hE
  have hbz1 := bthen hbz hE
  clear hE
  go_simp
  obtain ⟨wx1, hwz⟩ : ∃ v, v = wy1.alloc (Obj.cells #[.int .i64 E0, .int .i64 E1, .int .i64 E2, .int .i64 E3] 3) := ⟨_, rfl⟩
  rw [← hwz]
  have hl : Below wy1.heap.size wy1 wx1 := by rw [hwz]; exact below_new _ _
  have hcz1 := bthen hbz1 hl
  have iN : BlkI wx1 wy1.heap.size 3 [E0, E1, E2, E3] := by rw [hwz]; exact Blk.new _ _ _
  generalize wy1.heap.size = G at iN ⊢
  have a0 := cellb a0 hl
  have a1 := cellb a1 hl
  have a2 := cellb a2 hl
  have a3 := cellb a3 hl
  clear hwz
  refine hK _ _ (fun _ => hl) ?_
  clear hK K hl
  try simp only [Act.put, List.setIfInBounds_toArray, List.set_cons_zero, List.set_cons_succ]
  refine wpAnyE_call (i := 17) (oi := { dst := some 20, op := Op.call { callee := Callee.value (Operand.func 50), args := #[Operand.tmp 19], argTypes := #[59] }, type := 3, pos := "ref.go:70", after := #[{ on := 16, ground := Ground.data }, { on := 15, ground := Ground.chain }], guard := none }) (fun w hE => ofPure (TF.out _ w ((BlkI.ints iN rfl).carry hE))) rfl (by kernel_rfl) (by kernel_rfl) (by kernel_rfl) (by kernel_rfl) (fun _ _ _ h => h) (by rfl) (fun w hE => by (try dsimp only); go_simp) ?_
  try simp only [Act.put, List.setIfInBounds_toArray, List.set_cons_zero, List.set_cons_succ]
  refine wpAnyE_one (i := 18) (o := { dst := some 2, op := Op.assign (Operand.tmp 20), type := 3, pos := "ref.go:70", after := #[{ on := 17, ground := Ground.data }, { on := 17, ground := Ground.chain }, { on := 0, ground := Ground.phase }, { on := 1, ground := Ground.phase }, { on := 2, ground := Ground.phase }, { on := 3, ground := Ground.phase }, { on := 4, ground := Ground.phase }, { on := 5, ground := Ground.phase }, { on := 6, ground := Ground.phase }, { on := 7, ground := Ground.phase }, { on := 8, ground := Ground.phase }, { on := 9, ground := Ground.phase }, { on := 10, ground := Ground.phase }, { on := 11, ground := Ground.phase }, { on := 12, ground := Ground.phase }, { on := 13, ground := Ground.phase }, { on := 14, ground := Ground.phase }, { on := 15, ground := Ground.phase }, { on := 16, ground := Ground.phase }, { on := 17, ground := Ground.phase }], guard := none }) (by kernel_rfl) rfl (fun wy2 hE K hK => ?_)
  have a0 := cellb a0 hE
  have a1 := cellb a1 hE
  have a2 := cellb a2 hE
  have a3 := cellb a3 hE
  have hbz2 := bthen hcz1 hE
  go_simp
  refine hK _ _ (fun _ => Below.refl _ _) ?_
  clear hK K hE
  try simp only [Act.put, List.setIfInBounds_toArray, List.set_cons_zero, List.set_cons_succ]
  refine wpAnyE_done (by kernel_rfl) (fun wy3 hE => ?_) _
  have hbz3 := bthen hbz2 hE
  have a0 := cellb a0 hE
  have a1 := cellb a1 hE
  have a2 := cellb a2 hE
  have a3 := cellb a3 hE
  clear hE
  have hB := hbz3
  go_wp2_with fail
  go_ret
  exact ⟨rfl, hB⟩

end Go.Proofs.YtfeajpkjjlddlaaGreatDoor

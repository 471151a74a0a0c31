/- The package flow at one order: checks, steps, ramps. -/
import Derived.Test.YtpkaoechbmbolaaGreatDoorLoopD
import Derived.Test.YtpkaoechbmbolaaGreatDoorBlk
import Derived.Deep.DeepCutAuto
import Derived.Test.YtpkaoechbmbolaaGreatDoorOrdE
import Derived.Deep.CutBlock

namespace Go.Proofs.YtpkaoechbmbolaaGreatDoor
set_option linter.unusedSimpArgs false
set_option linter.unusedVariables false
open Go.RowKit

set_option maxHeartbeats 400000 in
theorem whenF_any (c : Bool) (e : Int) (w : World) :
    Calls Tryz.prog 46 #[.bool c, .int .i64 e] w fun r w' => r = .returned (.int .i64 (whenE c e)) ∧ w = w' := by
  cases c
  · go_enter Tryz.func46, Tryz.ntmps46
    go_wp2
    go_ret
    exact ⟨rfl, rfl⟩
  · go_enter Tryz.func46, Tryz.ntmps46
    go_wp2
    go_ret
    exact ⟨rfl, rfl⟩

set_option maxHeartbeats 400000 in
theorem withinF_any (n lo hi : Int) (w : World) :
    Calls Tryz.prog 38 #[.int .i64 n, .int .i64 lo, .int .i64 hi] w fun r w' => r = .returned (.int .i64 (withinE n lo hi)) ∧ w = w' := by
  by_cases h1 : n < lo
  · go_enter Tryz.func38, Tryz.ntmps38
    go_wp2_with fail
    refine (whenF_any _ _ _).mono ?_
    rintro e w' ⟨rfl, rfl⟩
    go_wp2_with fail
    go_ret
    exact ⟨by simp [whenE, withinE, h1], rfl⟩
  · by_cases h2 : hi < n
    all_goals
      go_enter Tryz.func38, Tryz.ntmps38
      go_wp2_with fail
      refine (whenF_any _ _ _).mono ?_
      rintro e w' ⟨rfl, rfl⟩
      go_wp2_with fail
      go_ret
      exact ⟨by simp [whenE, withinE, h1, h2], rfl⟩

set_option maxHeartbeats 400000 in
theorem firstF_any (v : Value) (l : List Int) (w : World) (hl : l.length ≤ maxLen) (hv : Ints w v l) :
    Calls Tryz.prog 36 #[v] w fun r w' => r = .returned (.int .i64 (firstE l)) ∧ w = w' := by
  unfold maxLen at hl
  obtain ⟨a, cap, rfl, hc, hv⟩ := hv
  rcases Nat.eq_zero_or_pos l.length with h0 | h0
  · obtain rfl : l = [] := List.length_eq_zero_iff.1 h0
    go_enter Tryz.func36, Tryz.ntmps36
    go_wp2
    go_loop [7] (fun i => i = .int .i64 0) (fun _ => 0)
    case atStart => rfl
    case round =>
      obtain rfl := hrel
      go_wp2
      go_ret
      exact ⟨rfl, rfl⟩
  · obtain ⟨b, off, rfl, hcs⟩ := hv h0
    clear hv
    go_enter Tryz.func36, Tryz.ntmps36
    go_wp2
    go_loop [7] (fun i => ∃ k : Nat, k ≤ l.length ∧ i = .int .i64 k ∧ firstE (l.take k) = 0) (fun i => l.length - (intOf i).toNat)
    case atStart => exact ⟨0, by omega, rfl, rfl⟩
    case round =>
      obtain ⟨k, hk, rfl, hf⟩ := hrel
      by_cases hlt : k < l.length
      · have hcell := hcs k hlt
        have hs := firstE_take_succ l k hlt hf
        clear hcs
        generalize l[k]?.getD 0 = x at hcell hs
        have HS := Lib.hid hs
        clear hs hf
        by_cases hz : x = 0
        · go_wp2
          go_round
          case rel => exact ⟨k + 1, by omega, by go_num, by rw [HS.out]; exact hz⟩
          case measure => simp [intOf]; omega
        · go_wp2
          go_ret
          exact ⟨ret_int (by rw [firstE_of_take l (k+1) (by rw [HS.out]; exact hz), HS.out]), rfl⟩
      · have HF := Lib.hid hf
        clear hf
        go_wp2
        go_ret
        have h := HF.out
        rw [List.take_of_length_le (by omega)] at h
        exact ⟨ret_int h.symm, rfl⟩

theorem first2F (a b : Int) (T : TypeId) (w : World) :
    Calls Tryz.prog 36 #[.slice (some ⟨w.heap.size, 0, none⟩) 2 2] (w.alloc (.cells #[.int .i64 a, .int .i64 b] T)) fun r w' => r = .returned (.int .i64 (firstE [a, b])) ∧ w.alloc (.cells #[.int .i64 a, .int .i64 b] T) = w' :=
  firstF_any _ [a, b] _ (by simp [maxLen]) (Ints.lit w T [a, b] 2 rfl)

theorem first3F (a b c : Int) (T : TypeId) (w : World) :
    Calls Tryz.prog 36 #[.slice (some ⟨w.heap.size, 0, none⟩) 3 3] (w.alloc (.cells #[.int .i64 a, .int .i64 b, .int .i64 c] T)) fun r w' => r = .returned (.int .i64 (firstE [a, b, c])) ∧ w.alloc (.cells #[.int .i64 a, .int .i64 b, .int .i64 c] T) = w' :=
  firstF_any _ [a, b, c] _ (by simp [maxLen]) (Ints.lit w T [a, b, c] 3 rfl)


theorem Blk.set2 {w : World} {B : Nat} {T : TypeId} {a b : Value} (h : Blk w B T [a, b]) (x y : Value) : Blk ((w.setCell ⟨B, 0, none⟩ x).setCell ⟨B, 1, none⟩ y) B T [x, y] := (h.set 0 x).set 1 y

set_option maxHeartbeats 400000 in
theorem checkPower_any (n : Int) (w : World) :
    Calls Tryz.prog 100 #[.int .i64 n] w fun r w' => r = .returned (.int .i64 (withinE n (-1000) 1000)) ∧ w = w' := by
  go_enter Tryz.func100, Tryz.ntmps100
  go_wp2_with fail
  refine (withinF_any _ _ _ _).mono ?_
  rintro e w' ⟨rfl, rfl⟩
  go_wp2_with fail
  go_ret
  exact ⟨rfl, rfl⟩

theorem wiF {n lo hi : Int} (h : lo ≤ n ∧ n ≤ hi) : withinE n lo hi = 0 := by unfold withinE; rw [if_neg (by omega)]
/-- one order. -/
def Ord1 (w : World) (v : Value) (t p : Int) : Prop := ∃ b off cap, v = .slice (some ⟨b, off, none⟩) 1 cap ∧ 1 ≤ cap ∧ w.cell? ⟨b, off, none⟩ = some (.int .i64 t) ∧ w.cell? ⟨b, off + 1, none⟩ = some (.int .i64 p)
theorem Ord1.carry {w w' : World} {v : Value} {t p : Int} (h : Ord1 w v t p) (hb : Below w.heap.size w w') : Ord1 w' v t p := by
  obtain ⟨b, off, cap, hv, hc, h0, h1⟩ := h
  exact ⟨b, off, cap, hv, hc, cellb h0 hb, cellb h1 hb⟩
/-- one step. -/
def Stp1 (w : World) (v : Value) (t p : Int) : Prop := ∃ b off cap, v = .slice (some ⟨b, off, none⟩) 1 cap ∧ 1 ≤ cap ∧ w.cell? ⟨b, off, none⟩ = some (.int .i64 t) ∧ w.cell? ⟨b, off + 1, none⟩ = some (.int .i64 p) ∧ w.cell? ⟨b, off + 2, none⟩ = some (.int .i64 0) ∧ w.cell? ⟨b, off + 3, none⟩ = some (.int .i64 0)
theorem Stp1.carry {w w' : World} {v : Value} {t p : Int} (h : Stp1 w v t p) (hb : Below w.heap.size w w') : Stp1 w' v t p := by
  obtain ⟨b, off, cap, hv, hc, h0, h1, h2, h3⟩ := h
  exact ⟨b, off, cap, hv, hc, cellb h0 hb, cellb h1 hb, cellb h2 hb, cellb h3 hb⟩
/-- an order's bounds. -/
def OkT (t p : Int) : Prop := (0 ≤ t ∧ t ≤ 40) ∧ (-8 ≤ p ∧ p ≤ 8)
def szT (p : Int) : Int := if p < 0 then -p else p

set_option maxRecDepth 100000 in
set_option maxHeartbeats 1000000 in
theorem CheckRules_ok (w : World) : Calls Tryz.prog 73 #[.agg #[.int .i64 1, .int .i64 (-8), .int .i64 8]] w fun e w' => e = .returned (.int .i64 0) ∧ Below w.heap.size w w' := by
  have T1 := Lib.hid (fun W => withinF_any 1 1 1000 W)
  have T2 := Lib.hid (fun W => checkPower_any (-8) W)
  have T3 := Lib.hid (fun W => checkPower_any 8 W)
  rw [wiF (by omega)] at T1 T2 T3
  have TW := Lib.hid (fun W => whenF_any false 11 W)
  rw [show whenE false 11 = 0 from rfl] at TW
  have TF := Lib.hid (fun (u : Value) (W : World) (h : Ints W u [0, 0, 0, 0]) => firstF_any u [0, 0, 0, 0] W (by simp [maxLen]) h)
  rw [show firstE [0, 0, 0, 0] = 0 from rfl] at TF
  go_enter Tryz.func73, Tryz.ntmps73
  go_upto_region 1 with fail
  obtain ⟨W1, hW1⟩ : ∃ v, v = World.alloc w (Obj.cells #[.int .i64 1, .int .i64 (-8), .int .i64 8] 44) := ⟨_, rfl⟩
  have kW1 : Below w.heap.size w W1 := by rw [hW1]; exact below_new _ _
  have iW1 : Blk W1 (w.heap.size) 44 [.int .i64 1, .int .i64 (-8), .int .i64 8] := by rw [hW1]; exact Blk.new _ _ _
  have sW1 : W1.heap.size = w.heap.size + 1 := by rw [hW1]; simp
  rw [← hW1]
  clear hW1
  have a0 := iW1.cell (j := 0) (v := .int .i64 1) rfl
  have a1 := iW1.cell (j := 1) (v := .int .i64 (-8)) rfl
  have a2 := iW1.cell (j := 2) (v := .int .i64 8) rfl
  have hB := kW1
  clear iW1 kW1 sW1
  refine wp_region_E 99 (by kernel_rfl) ?_
  obtain ⟨wz, hwz⟩ : ∃ v, v = W1.drew := ⟨_, rfl⟩
  rw [← hwz]
  have hlz : Below W1.heap.size W1 wz := by rw [hwz]; exact (Below.refl _ _).drew
  have hbz := bthen hB hlz
  have a0 := cellb a0 hlz
  have a1 := cellb a1 hlz
  have a2 := cellb a2 hlz
  clear hwz hlz
  refine wpAnyE_take (i := 0) (oi := { dst := some 3, op := Op.fieldAddr 44 (Operand.tmp 1) 0, type := 0, pos := "order.go:99", after := #[], guard := none }) (v := ?_) rfl (by kernel_rfl) (by kernel_rfl) (by kernel_rfl) (by kernel_rfl) (fun _ _ _ h => h) (Or.inl ⟨by rfl, ?_⟩) ?_
  rotate_left
  · (intro w hE; have a0 := cellb a0 hE; have a1 := cellb a1 hE; have a2 := cellb a2 hE; (try dsimp only); go_simp); (try with_reducible rfl)
  try simp only [Act.put, List.setIfInBounds_toArray, List.set_cons_zero, List.set_cons_succ]
  refine wpAnyE_take (i := 1) (oi := { dst := some 4, op := Op.load 3 (Operand.tmp 3), type := 3, pos := "order.go:99", after := #[{ on := 0, ground := Ground.data }], guard := none }) (v := ?_) rfl (by kernel_rfl) (by kernel_rfl) (by kernel_rfl) (by kernel_rfl) (fun _ _ _ h => h) (Or.inl ⟨by rfl, ?_⟩) ?_
  rotate_left
  · (intro w hE; have a0 := cellb a0 hE; have a1 := cellb a1 hE; have a2 := cellb a2 hE; (try dsimp only); go_simp); (try with_reducible rfl)
  try simp only [Act.put, List.setIfInBounds_toArray, List.set_cons_zero, List.set_cons_succ]
  refine wpAnyE_take (i := 3) (oi := { dst := some 6, op := Op.fieldAddr 44 (Operand.tmp 1) 1, type := 0, pos := "order.go:99", after := #[], guard := none }) (v := ?_) rfl (by kernel_rfl) (by kernel_rfl) (by kernel_rfl) (by kernel_rfl) (fun _ _ _ h => h) (Or.inl ⟨by rfl, ?_⟩) ?_
  rotate_left
  · (intro w hE; have a0 := cellb a0 hE; have a1 := cellb a1 hE; have a2 := cellb a2 hE; (try dsimp only); go_simp); (try with_reducible rfl)
  try simp only [Act.put, List.setIfInBounds_toArray, List.set_cons_zero, List.set_cons_succ]
  refine wpAnyE_take (i := 4) (oi := { dst := some 7, op := Op.load 3 (Operand.tmp 6), type := 3, pos := "order.go:99", after := #[{ on := 3, ground := Ground.data }], guard := none }) (v := ?_) rfl (by kernel_rfl) (by kernel_rfl) (by kernel_rfl) (by kernel_rfl) (fun _ _ _ h => h) (Or.inl ⟨by rfl, ?_⟩) ?_
  rotate_left
  · (intro w hE; have a0 := cellb a0 hE; have a1 := cellb a1 hE; have a2 := cellb a2 hE; (try dsimp only); go_simp); (try with_reducible rfl)
  try simp only [Act.put, List.setIfInBounds_toArray, List.set_cons_zero, List.set_cons_succ]
  refine wpAnyE_take (i := 6) (oi := { dst := some 9, op := Op.fieldAddr 44 (Operand.tmp 1) 2, type := 0, pos := "order.go:99", after := #[], guard := none }) (v := ?_) rfl (by kernel_rfl) (by kernel_rfl) (by kernel_rfl) (by kernel_rfl) (fun _ _ _ h => h) (Or.inl ⟨by rfl, ?_⟩) ?_
  rotate_left
  · (intro w hE; have a0 := cellb a0 hE; have a1 := cellb a1 hE; have a2 := cellb a2 hE; (try dsimp only); go_simp); (try with_reducible rfl)
  try simp only [Act.put, List.setIfInBounds_toArray, List.set_cons_zero, List.set_cons_succ]
  refine wpAnyE_take (i := 7) (oi := { dst := some 10, op := Op.load 3 (Operand.tmp 9), type := 3, pos := "order.go:99", after := #[{ on := 6, ground := Ground.data }], guard := none }) (v := ?_) rfl (by kernel_rfl) (by kernel_rfl) (by kernel_rfl) (by kernel_rfl) (fun _ _ _ h => h) (Or.inl ⟨by rfl, ?_⟩) ?_
  rotate_left
  · (intro w hE; have a0 := cellb a0 hE; have a1 := cellb a1 hE; have a2 := cellb a2 hE; (try dsimp only); go_simp); (try with_reducible rfl)
  try simp only [Act.put, List.setIfInBounds_toArray, List.set_cons_zero, List.set_cons_succ]
  refine wpAnyE_take (i := 9) (oi := { dst := some 12, op := Op.fieldAddr 44 (Operand.tmp 1) 1, type := 0, pos := "order.go:99", after := #[], guard := none }) (v := ?_) rfl (by kernel_rfl) (by kernel_rfl) (by kernel_rfl) (by kernel_rfl) (fun _ _ _ h => h) (Or.inl ⟨by rfl, ?_⟩) ?_
  rotate_left
  · (intro w hE; have a0 := cellb a0 hE; have a1 := cellb a1 hE; have a2 := cellb a2 hE; (try dsimp only); go_simp); (try with_reducible rfl)
  try simp only [Act.put, List.setIfInBounds_toArray, List.set_cons_zero, List.set_cons_succ]
  refine wpAnyE_take (i := 10) (oi := { dst := some 13, op := Op.load 3 (Operand.tmp 12), type := 3, pos := "order.go:99", after := #[{ on := 9, ground := Ground.data }], guard := none }) (v := ?_) rfl (by kernel_rfl) (by kernel_rfl) (by kernel_rfl) (by kernel_rfl) (fun _ _ _ h => h) (Or.inl ⟨by rfl, ?_⟩) ?_
  rotate_left
  · (intro w hE; have a0 := cellb a0 hE; have a1 := cellb a1 hE; have a2 := cellb a2 hE; (try dsimp only); go_simp); (try with_reducible rfl)
  try simp only [Act.put, List.setIfInBounds_toArray, List.set_cons_zero, List.set_cons_succ]
  refine wpAnyE_take (i := 11) (oi := { dst := some 14, op := Op.fieldAddr 44 (Operand.tmp 1) 2, type := 0, pos := "order.go:99", after := #[], guard := none }) (v := ?_) rfl (by kernel_rfl) (by kernel_rfl) (by kernel_rfl) (by kernel_rfl) (fun _ _ _ h => h) (Or.inl ⟨by rfl, ?_⟩) ?_
  rotate_left
  · (intro w hE; have a0 := cellb a0 hE; have a1 := cellb a1 hE; have a2 := cellb a2 hE; (try dsimp only); go_simp); (try with_reducible rfl)
  try simp only [Act.put, List.setIfInBounds_toArray, List.set_cons_zero, List.set_cons_succ]
  refine wpAnyE_take (i := 12) (oi := { dst := some 15, op := Op.load 3 (Operand.tmp 14), type := 3, pos := "order.go:99", after := #[{ on := 11, ground := Ground.data }], guard := none }) (v := ?_) rfl (by kernel_rfl) (by kernel_rfl) (by kernel_rfl) (by kernel_rfl) (fun _ _ _ h => h) (Or.inl ⟨by rfl, ?_⟩) ?_
  rotate_left
  · (intro w hE; have a0 := cellb a0 hE; have a1 := cellb a1 hE; have a2 := cellb a2 hE; (try dsimp only); go_simp); (try with_reducible rfl)
  try simp only [Act.put, List.setIfInBounds_toArray, List.set_cons_zero, List.set_cons_succ]
  refine wpAnyE_take (i := 13) (oi := { dst := some 16, op := Op.binOp BinOp.gtr 3 (Operand.tmp 13) (Operand.tmp 15) 3, type := 4, pos := "order.go:99", after := #[{ on := 10, ground := Ground.data }, { on := 12, ground := Ground.data }], guard := none }) (v := ?_) rfl (by kernel_rfl) (by kernel_rfl) (by kernel_rfl) (by kernel_rfl) (fun _ _ _ h => h) (Or.inl ⟨by rfl, ?_⟩) ?_
  rotate_left
  · (intro w hE; have a0 := cellb a0 hE; have a1 := cellb a1 hE; have a2 := cellb a2 hE; (try dsimp only); go_simp); (try with_reducible rfl)
  try simp only [Act.put, List.setIfInBounds_toArray, List.set_cons_zero, List.set_cons_succ]
  refine wpAnyE_call (i := 2) (oi := { dst := some 5, op := Op.call { callee := Callee.value (Operand.func 38), args := #[Operand.tmp 4, Operand.const (Value.int IntKind.i64 1), Operand.const (Value.int IntKind.i64 1000)], argTypes := #[3, 3, 3] }, type := 39, pos := "order.go:99", after := #[{ on := 1, ground := Ground.data }], guard := none }) (fun w hE => ofPure (T1.out w)) rfl (by kernel_rfl) (by kernel_rfl) (by kernel_rfl) (by kernel_rfl) (fun _ _ _ h => h) (by rfl) (fun w hE => by (try dsimp only); go_simp) ?_
  try simp only [Act.put, List.setIfInBounds_toArray, List.set_cons_zero, List.set_cons_succ]
  refine wpAnyE_call (i := 5) (oi := { dst := some 8, op := Op.call { callee := Callee.value (Operand.func 100), args := #[Operand.tmp 7], argTypes := #[3] }, type := 39, pos := "order.go:99", after := #[{ on := 4, ground := Ground.data }, { on := 2, ground := Ground.chain }], guard := none }) (fun w hE => ofPure (T2.out w)) rfl (by kernel_rfl) (by kernel_rfl) (by kernel_rfl) (by kernel_rfl) (fun _ _ _ h => h) (by rfl) (fun w hE => by (try dsimp only); go_simp) ?_
  try simp only [Act.put, List.setIfInBounds_toArray, List.set_cons_zero, List.set_cons_succ]
  refine wpAnyE_call (i := 8) (oi := { dst := some 11, op := Op.call { callee := Callee.value (Operand.func 100), args := #[Operand.tmp 10], argTypes := #[3] }, type := 39, pos := "order.go:99", after := #[{ on := 7, ground := Ground.data }, { on := 5, ground := Ground.chain }], guard := none }) (fun w hE => ofPure (T3.out w)) rfl (by kernel_rfl) (by kernel_rfl) (by kernel_rfl) (by kernel_rfl) (fun _ _ _ h => h) (by rfl) (fun w hE => by (try dsimp only); go_simp) ?_
  try simp only [Act.put, List.setIfInBounds_toArray, List.set_cons_zero, List.set_cons_succ]
  refine wpAnyE_call (i := 14) (oi := { dst := some 17, op := Op.call { callee := Callee.value (Operand.func 46), args := #[Operand.tmp 16, Operand.const (Value.int IntKind.i64 11)], argTypes := #[4, 39] }, type := 39, pos := "order.go:99", after := #[{ on := 13, ground := Ground.data }, { on := 8, ground := Ground.chain }], guard := none }) (fun w hE => ofPure (TW.out w)) rfl (by kernel_rfl) (by kernel_rfl) (by kernel_rfl) (by kernel_rfl) (fun _ _ _ h => h) (by rfl) (fun w hE => by (try dsimp only); go_simp) ?_
  try simp only [Act.put, List.setIfInBounds_toArray, List.set_cons_zero, List.set_cons_succ]
  refine wpAnyE_one (i := 15) (o := { dst := some 18, op := Op.buildSlice 101 4 #[(0, Operand.tmp 5), (1, Operand.tmp 8), (2, Operand.tmp 11), (3, Operand.tmp 17)], type := 101, pos := "order.go:99", after := #[{ on := 2, ground := Ground.data }, { on := 5, ground := Ground.data }, { on := 8, ground := Ground.data }, { on := 14, ground := Ground.data }], guard := none }) (by kernel_rfl) rfl (fun wy1 hE K hK => ?_)
  have a0 := cellb a0 hE
  have a1 := cellb a1 hE
  have a2 := cellb a2 hE
  have hbz1 := bthen hbz hE
  clear hE
  go_simp
  obtain ⟨wx1, hwz⟩ : ∃ v, v = wy1.alloc (Obj.cells #[.int .i64 0, .int .i64 0, .int .i64 0, .int .i64 0] 39) := ⟨_, rfl⟩
  rw [← hwz]
  have hl : Below wy1.heap.size wy1 wx1 := by rw [hwz]; exact below_new _ _
  have hcz1 := bthen hbz1 hl
  have iN : BlkI wx1 wy1.heap.size 39 [0, 0, 0, 0] := by rw [hwz]; exact Blk.new _ _ _
  generalize wy1.heap.size = G at iN ⊢
  have a0 := cellb a0 hl
  have a1 := cellb a1 hl
  have a2 := cellb a2 hl
  clear hwz
  refine hK _ _ (fun _ => hl) ?_
  clear hK K hl
  try simp only [Act.put, List.setIfInBounds_toArray, List.set_cons_zero, List.set_cons_succ]
  refine wpAnyE_call (i := 16) (oi := { dst := some 19, op := Op.call { callee := Callee.value (Operand.func 36), args := #[Operand.tmp 18], argTypes := #[101] }, type := 39, pos := "order.go:99", after := #[{ on := 15, ground := Ground.data }, { on := 14, ground := Ground.chain }], guard := none }) (fun w hE => ofPure (TF.out _ w ((BlkI.ints iN rfl).carry hE))) rfl (by kernel_rfl) (by kernel_rfl) (by kernel_rfl) (by kernel_rfl) (fun _ _ _ h => h) (by rfl) (fun w hE => by (try dsimp only); go_simp) ?_
  try simp only [Act.put, List.setIfInBounds_toArray, List.set_cons_zero, List.set_cons_succ]
  refine wpAnyE_take (i := 17) (oi := { dst := some 2, op := Op.assign (Operand.tmp 19), type := 39, pos := "order.go:99", after := #[{ on := 16, ground := Ground.data }, { on := 16, ground := Ground.chain }, { on := 0, ground := Ground.phase }, { on := 1, ground := Ground.phase }, { on := 2, ground := Ground.phase }, { on := 3, ground := Ground.phase }, { on := 4, ground := Ground.phase }, { on := 5, ground := Ground.phase }, { on := 6, ground := Ground.phase }, { on := 7, ground := Ground.phase }, { on := 8, ground := Ground.phase }, { on := 9, ground := Ground.phase }, { on := 10, ground := Ground.phase }, { on := 11, ground := Ground.phase }, { on := 12, ground := Ground.phase }, { on := 13, ground := Ground.phase }, { on := 14, ground := Ground.phase }, { on := 15, ground := Ground.phase }, { on := 16, ground := Ground.phase }], guard := none }) (v := ?_) rfl (by kernel_rfl) (by kernel_rfl) (by kernel_rfl) (by kernel_rfl) (fun _ _ _ h => h) (Or.inl ⟨by rfl, ?_⟩) ?_
  rotate_left
  · (intro w hE; have a0 := cellb a0 hE; have a1 := cellb a1 hE; have a2 := cellb a2 hE; (try dsimp only); go_simp); (try with_reducible rfl)
  try simp only [Act.put, List.setIfInBounds_toArray, List.set_cons_zero, List.set_cons_succ]
  refine wpAnyE_done (by kernel_rfl) (fun wy2 hE => ?_) _
  have hbz2 := bthen hcz1 hE
  have a0 := cellb a0 hE
  have a1 := cellb a1 hE
  have a2 := cellb a2 hE
  clear hE
  have hB := hbz2
  obtain ⟨W9, hW9⟩ : ∃ v, v = wy2 := ⟨_, rfl⟩
  rw [← hW9] at hB ⊢
  clear hW9 a0 a1 a2
  go_wp2
  go_ret
  exact ⟨rfl, hB⟩

set_option maxRecDepth 100000 in
set_option maxHeartbeats 2000000 in
theorem CheckOrders_ok (v : Value) (t p : Int) (w : World) (hv : Ord1 w v t p) (hok : OkT t p) : Calls Tryz.prog 74 #[v] w fun e w' => e = .returned (.int .i64 0) ∧ Below w.heap.size w w' := by
  obtain ⟨b, off, cap, rfl, hc, c0, c1⟩ := hv
  obtain ⟨h0, h1⟩ := hok
  have T1 := Lib.hid (fun W => withinF_any t 0 100000 W)
  have T2 := Lib.hid (fun W => checkPower_any p W)
  rw [wiF (by omega)] at T1 T2
  have TW := Lib.hid (fun W => whenF_any false 11 W)
  rw [show whenE false 11 = 0 from rfl] at TW
  have TF := Lib.hid (fun (u : Value) (W : World) (h : Ints W u [0, 0, 0]) => firstF_any u [0, 0, 0] W (by simp [maxLen]) h)
  rw [show firstE [0, 0, 0] = 0 from rfl] at TF
  have ht : decide (t ≤ -1) = false := by simp; omega
  clear hc h1
  go_enter Tryz.func74, Tryz.ntmps74
  go_wp2_with fail
  go_loopw [3, 12] (fun u i wx => ∃ k : Nat, k ≤ 1 ∧ i = .int .i64 k ∧ (k = 0 → u = .int .i64 (-1)) ∧ Below w.heap.size w wx) (fun _ i _ => 1 - (intOf i).toNat)
  case atStart => exact ⟨0, by omega, rfl, fun _ => rfl, Below.refl _ _⟩
  case round =>
    obtain ⟨k, hk, rfl, hu, hbel⟩ := hrel
    by_cases h9 : k = 0
    · subst h9
      obtain rfl := hu rfl
      replace c0 := cellb c0 hbel
      replace c1 := cellb c1 hbel
      go_upto_region 7 with fail
      obtain ⟨W1, hW1⟩ : ∃ v, v = World.alloc wr (Obj.cells #[.int .i64 t, .int .i64 p] 48) := ⟨_, rfl⟩
      have kW1 : Below wr.heap.size wr W1 := by rw [hW1]; exact below_new _ _
      have iW1 : Blk W1 (wr.heap.size) 48 [.int .i64 t, .int .i64 p] := by rw [hW1]; exact Blk.new _ _ _
      have sW1 : W1.heap.size = wr.heap.size + 1 := by rw [hW1]; simp
      rw [← hW1]
      clear hW1
      have a0 := iW1.cell (j := 0) (v := .int .i64 t) rfl
      have a1 := iW1.cell (j := 1) (v := .int .i64 p) rfl
      have hB := bthen hbel kW1
      have i1 := iW1
      clear iW1 kW1 sW1 c0 c1
      refine wp_region_E 99 (by kernel_rfl) ?_
      obtain ⟨wz, hwz⟩ : ∃ v, v = W1.drew := ⟨_, rfl⟩
      rw [← hwz]
      have hlz : Below W1.heap.size W1 wz := by rw [hwz]; exact (Below.refl _ _).drew
      have hbz := bthen hB hlz
      have a0 := cellb a0 hlz
      have a1 := cellb a1 hlz
      have i1 := i1.carry hlz
      clear hwz hlz
      refine wpAnyE_take (i := 0) (oi := { dst := some 16, op := Op.fieldAddr 48 (Operand.tmp 5) 0, type := 0, pos := "order.go:54", after := #[], guard := none }) (v := ?_) rfl (by kernel_rfl) (by kernel_rfl) (by kernel_rfl) (by kernel_rfl) (fun _ _ _ h => h) (Or.inl ⟨by rfl, ?_⟩) ?_
      rotate_left
      · (intro w hE; have a0 := cellb a0 hE; have a1 := cellb a1 hE; (try dsimp only); go_simp); (try with_reducible rfl)
      try simp only [Act.put, List.setIfInBounds_toArray, List.set_cons_zero, List.set_cons_succ]
      refine wpAnyE_take (i := 1) (oi := { dst := some 17, op := Op.load 3 (Operand.tmp 16), type := 3, pos := "order.go:54", after := #[{ on := 0, ground := Ground.data }], guard := none }) (v := ?_) rfl (by kernel_rfl) (by kernel_rfl) (by kernel_rfl) (by kernel_rfl) (fun _ _ _ h => h) (Or.inl ⟨by rfl, ?_⟩) ?_
      rotate_left
      · (intro w hE; have a0 := cellb a0 hE; have a1 := cellb a1 hE; (try dsimp only); go_simp); (try with_reducible rfl)
      try simp only [Act.put, List.setIfInBounds_toArray, List.set_cons_zero, List.set_cons_succ]
      refine wpAnyE_take (i := 3) (oi := { dst := some 19, op := Op.fieldAddr 48 (Operand.tmp 5) 1, type := 0, pos := "order.go:54", after := #[], guard := none }) (v := ?_) rfl (by kernel_rfl) (by kernel_rfl) (by kernel_rfl) (by kernel_rfl) (fun _ _ _ h => h) (Or.inl ⟨by rfl, ?_⟩) ?_
      rotate_left
      · (intro w hE; have a0 := cellb a0 hE; have a1 := cellb a1 hE; (try dsimp only); go_simp); (try with_reducible rfl)
      try simp only [Act.put, List.setIfInBounds_toArray, List.set_cons_zero, List.set_cons_succ]
      refine wpAnyE_take (i := 4) (oi := { dst := some 20, op := Op.load 3 (Operand.tmp 19), type := 3, pos := "order.go:54", after := #[{ on := 3, ground := Ground.data }], guard := none }) (v := ?_) rfl (by kernel_rfl) (by kernel_rfl) (by kernel_rfl) (by kernel_rfl) (fun _ _ _ h => h) (Or.inl ⟨by rfl, ?_⟩) ?_
      rotate_left
      · (intro w hE; have a0 := cellb a0 hE; have a1 := cellb a1 hE; (try dsimp only); go_simp); (try with_reducible rfl)
      try simp only [Act.put, List.setIfInBounds_toArray, List.set_cons_zero, List.set_cons_succ]
      refine wpAnyE_take (i := 6) (oi := { dst := some 22, op := Op.fieldAddr 48 (Operand.tmp 5) 0, type := 0, pos := "order.go:54", after := #[], guard := none }) (v := ?_) rfl (by kernel_rfl) (by kernel_rfl) (by kernel_rfl) (by kernel_rfl) (fun _ _ _ h => h) (Or.inl ⟨by rfl, ?_⟩) ?_
      rotate_left
      · (intro w hE; have a0 := cellb a0 hE; have a1 := cellb a1 hE; (try dsimp only); go_simp); (try with_reducible rfl)
      try simp only [Act.put, List.setIfInBounds_toArray, List.set_cons_zero, List.set_cons_succ]
      refine wpAnyE_take (i := 7) (oi := { dst := some 23, op := Op.load 3 (Operand.tmp 22), type := 3, pos := "order.go:54", after := #[{ on := 6, ground := Ground.data }], guard := none }) (v := ?_) rfl (by kernel_rfl) (by kernel_rfl) (by kernel_rfl) (by kernel_rfl) (fun _ _ _ h => h) (Or.inl ⟨by rfl, ?_⟩) ?_
      rotate_left
      · (intro w hE; have a0 := cellb a0 hE; have a1 := cellb a1 hE; (try dsimp only); go_simp); (try with_reducible rfl)
      try simp only [Act.put, List.setIfInBounds_toArray, List.set_cons_zero, List.set_cons_succ]
      refine wpAnyE_take (i := 8) (oi := { dst := some 24, op := Op.move (Operand.tmp 3), type := 3, pos := "order.go:54", after := #[], guard := none }) (v := ?_) rfl (by kernel_rfl) (by kernel_rfl) (by kernel_rfl) (by kernel_rfl) (fun _ _ _ h => h) (Or.inl ⟨by rfl, ?_⟩) ?_
      rotate_left
      · (intro w hE; have a0 := cellb a0 hE; have a1 := cellb a1 hE; (try dsimp only); go_simp); (try with_reducible rfl)
      try simp only [Act.put, List.setIfInBounds_toArray, List.set_cons_zero, List.set_cons_succ]
      refine wpAnyE_take (i := 9) (oi := { dst := some 25, op := Op.binOp BinOp.leq 3 (Operand.tmp 23) (Operand.tmp 24) 3, type := 4, pos := "order.go:54", after := #[{ on := 7, ground := Ground.data }, { on := 8, ground := Ground.data }], guard := none }) (v := ?_) rfl (by kernel_rfl) (by kernel_rfl) (by kernel_rfl) (by kernel_rfl) (fun _ _ _ h => h) (Or.inl ⟨by rfl, ?_⟩) ?_
      rotate_left
      · (intro w hE; have a0 := cellb a0 hE; have a1 := cellb a1 hE; (try dsimp only); go_simp); (try with_reducible rfl)
      try simp only [Act.put, List.setIfInBounds_toArray, List.set_cons_zero, List.set_cons_succ]
      refine wpAnyE_call (i := 2) (oi := { dst := some 18, op := Op.call { callee := Callee.value (Operand.func 38), args := #[Operand.tmp 17, Operand.const (Value.int IntKind.i64 0), Operand.const (Value.int IntKind.i64 100000)], argTypes := #[3, 3, 3] }, type := 39, pos := "order.go:54", after := #[{ on := 1, ground := Ground.data }], guard := none }) (fun w hE => ofPure (T1.out w)) rfl (by kernel_rfl) (by kernel_rfl) (by kernel_rfl) (by kernel_rfl) (fun _ _ _ h => h) (by rfl) (fun w hE => by (try dsimp only); go_simp) ?_
      try simp only [Act.put, List.setIfInBounds_toArray, List.set_cons_zero, List.set_cons_succ]
      refine wpAnyE_call (i := 5) (oi := { dst := some 21, op := Op.call { callee := Callee.value (Operand.func 100), args := #[Operand.tmp 20], argTypes := #[3] }, type := 39, pos := "order.go:54", after := #[{ on := 4, ground := Ground.data }, { on := 2, ground := Ground.chain }], guard := none }) (fun w hE => ofPure (T2.out w)) rfl (by kernel_rfl) (by kernel_rfl) (by kernel_rfl) (by kernel_rfl) (fun _ _ _ h => h) (by rfl) (fun w hE => by (try dsimp only); go_simp) ?_
      try simp only [Act.put, List.setIfInBounds_toArray, List.set_cons_zero, List.set_cons_succ]
      refine wpAnyE_call (i := 10) (oi := { dst := some 26, op := Op.call { callee := Callee.value (Operand.func 46), args := #[Operand.tmp 25, Operand.const (Value.int IntKind.i64 11)], argTypes := #[4, 39] }, type := 39, pos := "order.go:54", after := #[{ on := 9, ground := Ground.data }, { on := 5, ground := Ground.chain }], guard := none }) (fun w hE => ofPure (TW.out w)) rfl (by kernel_rfl) (by kernel_rfl) (by kernel_rfl) (by kernel_rfl) (fun _ _ _ h => h) (by rfl) (fun w hE => by (try dsimp only); go_simp) ?_
      try simp only [Act.put, List.setIfInBounds_toArray, List.set_cons_zero, List.set_cons_succ]
      refine wpAnyE_one (i := 11) (o := { dst := some 27, op := Op.buildSlice 101 3 #[(0, Operand.tmp 18), (1, Operand.tmp 21), (2, Operand.tmp 26)], type := 101, pos := "order.go:54", after := #[{ on := 2, ground := Ground.data }, { on := 5, ground := Ground.data }, { on := 10, ground := Ground.data }], guard := none }) (by kernel_rfl) rfl (fun wy1 hE K hK => ?_)
      have a0 := cellb a0 hE
      have a1 := cellb a1 hE
      have i1 := i1.carry hE
      have hbz1 := bthen hbz hE
      clear hE
      go_simp
      obtain ⟨wx1, hwz⟩ : ∃ v, v = wy1.alloc (Obj.cells #[.int .i64 0, .int .i64 0, .int .i64 0] 39) := ⟨_, rfl⟩
      rw [← hwz]
      have hl : Below wy1.heap.size wy1 wx1 := by rw [hwz]; exact below_new _ _
      have hcz1 := bthen hbz1 hl
      have iN : BlkI wx1 wy1.heap.size 39 [0, 0, 0] := by rw [hwz]; exact Blk.new _ _ _
      generalize wy1.heap.size = G at iN ⊢
      have a0 := cellb a0 hl
      have a1 := cellb a1 hl
      have i1 := i1.carry hl
      clear hwz
      refine hK _ _ (fun _ => hl) ?_
      clear hK K hl
      try simp only [Act.put, List.setIfInBounds_toArray, List.set_cons_zero, List.set_cons_succ]
      refine wpAnyE_call (i := 12) (oi := { dst := some 28, op := Op.call { callee := Callee.value (Operand.func 36), args := #[Operand.tmp 27], argTypes := #[101] }, type := 39, pos := "order.go:54", after := #[{ on := 11, ground := Ground.data }, { on := 10, ground := Ground.chain }], guard := none }) (fun w hE => ofPure (TF.out _ w ((BlkI.ints iN rfl).carry hE))) rfl (by kernel_rfl) (by kernel_rfl) (by kernel_rfl) (by kernel_rfl) (fun _ _ _ h => h) (by rfl) (fun w hE => by (try dsimp only); go_simp) ?_
      try simp only [Act.put, List.setIfInBounds_toArray, List.set_cons_zero, List.set_cons_succ]
      refine wpAnyE_take (i := 13) (oi := { dst := some 6, op := Op.assign (Operand.tmp 28), type := 39, pos := "order.go:54", after := #[{ on := 12, ground := Ground.data }, { on := 12, ground := Ground.chain }, { on := 0, ground := Ground.phase }, { on := 1, ground := Ground.phase }, { on := 2, ground := Ground.phase }, { on := 3, ground := Ground.phase }, { on := 4, ground := Ground.phase }, { on := 5, ground := Ground.phase }, { on := 6, ground := Ground.phase }, { on := 7, ground := Ground.phase }, { on := 8, ground := Ground.phase }, { on := 9, ground := Ground.phase }, { on := 10, ground := Ground.phase }, { on := 11, ground := Ground.phase }, { on := 12, ground := Ground.phase }], guard := none }) (v := ?_) rfl (by kernel_rfl) (by kernel_rfl) (by kernel_rfl) (by kernel_rfl) (fun _ _ _ h => h) (Or.inl ⟨by rfl, ?_⟩) ?_
      rotate_left
      · (intro w hE; have a0 := cellb a0 hE; have a1 := cellb a1 hE; (try dsimp only); go_simp); (try with_reducible rfl)
      try simp only [Act.put, List.setIfInBounds_toArray, List.set_cons_zero, List.set_cons_succ]
      refine wpAnyE_done (by kernel_rfl) (fun wy2 hE => ?_) _
      have hbz2 := bthen hcz1 hE
      have a0 := cellb a0 hE
      have a1 := cellb a1 hE
      have i1 := i1.carry hE
      clear hE
      have hB := hbz2
      obtain ⟨W9, hW9⟩ : ∃ v, v = wy2 := ⟨_, rfl⟩
      rw [← hW9] at hB i1 ⊢
      clear hW9 a0 a1
      have a0 := i1.cell (j := 0) (v := .int .i64 t) rfl
      go_wp2_with fail
      go_roundw
      case rel => exact ⟨1, by omega, by go_num, fun h => by omega, hB⟩
      case measure => simp [intOf]
    · obtain rfl : k = 1 := by omega
      go_wp2
      go_ret
      exact ⟨rfl, hbel⟩
set_option maxRecDepth 100000 in
set_option maxHeartbeats 1000000 in
theorem check_ok (v : Value) (t p : Int) (w : World) (hv : Ord1 w v t p) (hok : OkT t p) : Calls Tryz.prog 37 #[.agg #[.int .i64 1, .int .i64 (-8), .int .i64 8], .int .i64 0, v] w fun e w' => e = .returned (.int .i64 0) ∧ Below w.heap.size w w' := by
  have T1 := Lib.hid (fun W => CheckRules_ok W)
  have T2 := Lib.hid (fun W => withinF_any 0 (-8) 8 W)
  rw [wiF (by omega)] at T2
  have T3 := Lib.hid (fun W h => CheckOrders_ok v t p W h hok)
  have TF := Lib.hid (fun (u : Value) (W : World) (h : Ints W u [0, 0, 0]) => firstF_any u [0, 0, 0] W (by simp [maxLen]) h)
  rw [show firstE [0, 0, 0] = 0 from rfl] at TF
  clear hok
  go_enter Tryz.func37, Tryz.ntmps37
  go_upto_region 1 with fail
  obtain ⟨W1, hW1⟩ : ∃ v, v = World.alloc w (Obj.cells #[.int .i64 1, .int .i64 (-8), .int .i64 8] 44) := ⟨_, rfl⟩
  have kW1 : Below w.heap.size w W1 := by rw [hW1]; exact below_new _ _
  have iW1 : Blk W1 (w.heap.size) 44 [.int .i64 1, .int .i64 (-8), .int .i64 8] := by rw [hW1]; exact Blk.new _ _ _
  have sW1 : W1.heap.size = w.heap.size + 1 := by rw [hW1]; simp
  rw [← hW1]
  clear hW1
  have a0 := iW1.cell (j := 0) (v := .int .i64 1) rfl
  have a1 := iW1.cell (j := 1) (v := .int .i64 (-8)) rfl
  have a2 := iW1.cell (j := 2) (v := .int .i64 8) rfl
  replace hv := hv.carry kW1
  have hB := kW1
  clear iW1 kW1 sW1
  refine wp_region_E 99 (by kernel_rfl) ?_
  obtain ⟨wz, hwz⟩ : ∃ v, v = W1.drew := ⟨_, rfl⟩
  rw [← hwz]
  have hlz : Below W1.heap.size W1 wz := by rw [hwz]; exact (Below.refl _ _).drew
  have hbz := bthen hB hlz
  have a0 := cellb a0 hlz
  have a1 := cellb a1 hlz
  have a2 := cellb a2 hlz
  have hv := hv.carry hlz
  clear hwz hlz
  refine wpAnyE_take (i := 0) (oi := { dst := some 7, op := Op.load 44 (Operand.tmp 3), type := 44, pos := "order.go:104", after := #[], guard := none }) (v := ?_) rfl (by kernel_rfl) (by kernel_rfl) (by kernel_rfl) (by kernel_rfl) (fun _ _ _ h => h) (Or.inl ⟨by rfl, ?_⟩) ?_
  rotate_left
  · (intro w hE; have a0 := cellb a0 hE; have a1 := cellb a1 hE; have a2 := cellb a2 hE; (try dsimp only); go_simp); (try with_reducible rfl)
  try simp only [Act.put, List.setIfInBounds_toArray, List.set_cons_zero, List.set_cons_succ]
  refine wpAnyE_take (i := 2) (oi := { dst := some 9, op := Op.move (Operand.tmp 1), type := 3, pos := "order.go:104", after := #[], guard := none }) (v := ?_) rfl (by kernel_rfl) (by kernel_rfl) (by kernel_rfl) (by kernel_rfl) (fun _ _ _ h => h) (Or.inl ⟨by rfl, ?_⟩) ?_
  rotate_left
  · (intro w hE; have a0 := cellb a0 hE; have a1 := cellb a1 hE; have a2 := cellb a2 hE; (try dsimp only); go_simp); (try with_reducible rfl)
  try simp only [Act.put, List.setIfInBounds_toArray, List.set_cons_zero, List.set_cons_succ]
  refine wpAnyE_take (i := 3) (oi := { dst := some 10, op := Op.fieldAddr 44 (Operand.tmp 3) 1, type := 0, pos := "order.go:104", after := #[], guard := none }) (v := ?_) rfl (by kernel_rfl) (by kernel_rfl) (by kernel_rfl) (by kernel_rfl) (fun _ _ _ h => h) (Or.inl ⟨by rfl, ?_⟩) ?_
  rotate_left
  · (intro w hE; have a0 := cellb a0 hE; have a1 := cellb a1 hE; have a2 := cellb a2 hE; (try dsimp only); go_simp); (try with_reducible rfl)
  try simp only [Act.put, List.setIfInBounds_toArray, List.set_cons_zero, List.set_cons_succ]
  refine wpAnyE_take (i := 4) (oi := { dst := some 11, op := Op.load 3 (Operand.tmp 10), type := 3, pos := "order.go:104", after := #[{ on := 3, ground := Ground.data }], guard := none }) (v := ?_) rfl (by kernel_rfl) (by kernel_rfl) (by kernel_rfl) (by kernel_rfl) (fun _ _ _ h => h) (Or.inl ⟨by rfl, ?_⟩) ?_
  rotate_left
  · (intro w hE; have a0 := cellb a0 hE; have a1 := cellb a1 hE; have a2 := cellb a2 hE; (try dsimp only); go_simp); (try with_reducible rfl)
  try simp only [Act.put, List.setIfInBounds_toArray, List.set_cons_zero, List.set_cons_succ]
  refine wpAnyE_take (i := 5) (oi := { dst := some 12, op := Op.fieldAddr 44 (Operand.tmp 3) 2, type := 0, pos := "order.go:104", after := #[], guard := none }) (v := ?_) rfl (by kernel_rfl) (by kernel_rfl) (by kernel_rfl) (by kernel_rfl) (fun _ _ _ h => h) (Or.inl ⟨by rfl, ?_⟩) ?_
  rotate_left
  · (intro w hE; have a0 := cellb a0 hE; have a1 := cellb a1 hE; have a2 := cellb a2 hE; (try dsimp only); go_simp); (try with_reducible rfl)
  try simp only [Act.put, List.setIfInBounds_toArray, List.set_cons_zero, List.set_cons_succ]
  refine wpAnyE_take (i := 6) (oi := { dst := some 13, op := Op.load 3 (Operand.tmp 12), type := 3, pos := "order.go:104", after := #[{ on := 5, ground := Ground.data }], guard := none }) (v := ?_) rfl (by kernel_rfl) (by kernel_rfl) (by kernel_rfl) (by kernel_rfl) (fun _ _ _ h => h) (Or.inl ⟨by rfl, ?_⟩) ?_
  rotate_left
  · (intro w hE; have a0 := cellb a0 hE; have a1 := cellb a1 hE; have a2 := cellb a2 hE; (try dsimp only); go_simp); (try with_reducible rfl)
  try simp only [Act.put, List.setIfInBounds_toArray, List.set_cons_zero, List.set_cons_succ]
  refine wpAnyE_take (i := 8) (oi := { dst := some 15, op := Op.move (Operand.tmp 2), type := 49, pos := "order.go:104", after := #[], guard := none }) (v := ?_) rfl (by kernel_rfl) (by kernel_rfl) (by kernel_rfl) (by kernel_rfl) (fun _ _ _ h => h) (Or.inl ⟨by rfl, ?_⟩) ?_
  rotate_left
  · (intro w hE; have a0 := cellb a0 hE; have a1 := cellb a1 hE; have a2 := cellb a2 hE; (try dsimp only); go_simp); (try with_reducible rfl)
  try simp only [Act.put, List.setIfInBounds_toArray, List.set_cons_zero, List.set_cons_succ]
  refine wpAnyE_call (i := 1) (oi := { dst := some 8, op := Op.call { callee := Callee.value (Operand.func 73), args := #[Operand.tmp 7], argTypes := #[44] }, type := 39, pos := "order.go:104", after := #[{ on := 0, ground := Ground.data }], guard := none }) (fun w hE => T1.out w) rfl (by kernel_rfl) (by kernel_rfl) (by kernel_rfl) (by kernel_rfl) (fun _ _ _ h => h) (by rfl) (fun w hE => by (try dsimp only); go_simp) ?_
  try simp only [Act.put, List.setIfInBounds_toArray, List.set_cons_zero, List.set_cons_succ]
  refine wpAnyE_call (i := 7) (oi := { dst := some 14, op := Op.call { callee := Callee.value (Operand.func 38), args := #[Operand.tmp 9, Operand.tmp 11, Operand.tmp 13], argTypes := #[3, 3, 3] }, type := 39, pos := "order.go:104", after := #[{ on := 2, ground := Ground.data }, { on := 4, ground := Ground.data }, { on := 6, ground := Ground.data }, { on := 1, ground := Ground.chain }], guard := none }) (fun w hE => ofPure (T2.out w)) rfl (by kernel_rfl) (by kernel_rfl) (by kernel_rfl) (by kernel_rfl) (fun _ _ _ h => h) (by rfl) (fun w hE => by (try dsimp only); go_simp) ?_
  try simp only [Act.put, List.setIfInBounds_toArray, List.set_cons_zero, List.set_cons_succ]
  refine wpAnyE_call (i := 9) (oi := { dst := some 16, op := Op.call { callee := Callee.value (Operand.func 74), args := #[Operand.tmp 15], argTypes := #[49] }, type := 39, pos := "order.go:104", after := #[{ on := 8, ground := Ground.data }, { on := 7, ground := Ground.chain }], guard := none }) (fun w hE => T3.out w (hv.carry hE)) rfl (by kernel_rfl) (by kernel_rfl) (by kernel_rfl) (by kernel_rfl) (fun _ _ _ h => h) (by rfl) (fun w hE => by (try dsimp only); go_simp) ?_
  try simp only [Act.put, List.setIfInBounds_toArray, List.set_cons_zero, List.set_cons_succ]
  refine wpAnyE_one (i := 10) (o := { dst := some 17, op := Op.buildSlice 101 3 #[(0, Operand.tmp 8), (1, Operand.tmp 14), (2, Operand.tmp 16)], type := 101, pos := "order.go:104", after := #[{ on := 1, ground := Ground.data }, { on := 7, ground := Ground.data }, { on := 9, ground := Ground.data }], guard := none }) (by kernel_rfl) rfl (fun wy1 hE K hK => ?_)
  have a0 := cellb a0 hE
  have a1 := cellb a1 hE
  have a2 := cellb a2 hE
  have hv := hv.carry hE
  have hbz1 := bthen hbz hE
  clear hE
  go_simp
  obtain ⟨wx1, hwz⟩ : ∃ v, v = wy1.alloc (Obj.cells #[.int .i64 0, .int .i64 0, .int .i64 0] 39) := ⟨_, rfl⟩
  rw [← hwz]
  have hl : Below wy1.heap.size wy1 wx1 := by rw [hwz]; exact below_new _ _
  have hcz1 := bthen hbz1 hl
  have iN : BlkI wx1 wy1.heap.size 39 [0, 0, 0] := by rw [hwz]; exact Blk.new _ _ _
  generalize wy1.heap.size = G at iN ⊢
  have a0 := cellb a0 hl
  have a1 := cellb a1 hl
  have a2 := cellb a2 hl
  have hv := hv.carry hl
  clear hwz
  refine hK _ _ (fun _ => hl) ?_
  clear hK K hl
  try simp only [Act.put, List.setIfInBounds_toArray, List.set_cons_zero, List.set_cons_succ]
  refine wpAnyE_call (i := 11) (oi := { dst := some 18, op := Op.call { callee := Callee.value (Operand.func 36), args := #[Operand.tmp 17], argTypes := #[101] }, type := 39, pos := "order.go:104", after := #[{ on := 10, ground := Ground.data }, { on := 9, ground := Ground.chain }], guard := none }) (fun w hE => ofPure (TF.out _ w ((BlkI.ints iN rfl).carry hE))) rfl (by kernel_rfl) (by kernel_rfl) (by kernel_rfl) (by kernel_rfl) (fun _ _ _ h => h) (by rfl) (fun w hE => by (try dsimp only); go_simp) ?_
  try simp only [Act.put, List.setIfInBounds_toArray, List.set_cons_zero, List.set_cons_succ]
  refine wpAnyE_take (i := 12) (oi := { dst := some 6, op := Op.assign (Operand.tmp 18), type := 39, pos := "order.go:104", after := #[{ on := 11, ground := Ground.data }, { on := 11, ground := Ground.chain }, { on := 0, ground := Ground.phase }, { on := 1, ground := Ground.phase }, { on := 2, ground := Ground.phase }, { on := 3, ground := Ground.phase }, { on := 4, ground := Ground.phase }, { on := 5, ground := Ground.phase }, { on := 6, ground := Ground.phase }, { on := 7, ground := Ground.phase }, { on := 8, ground := Ground.phase }, { on := 9, ground := Ground.phase }, { on := 10, ground := Ground.phase }, { on := 11, ground := Ground.phase }], guard := none }) (v := ?_) rfl (by kernel_rfl) (by kernel_rfl) (by kernel_rfl) (by kernel_rfl) (fun _ _ _ h => h) (Or.inl ⟨by rfl, ?_⟩) ?_
  rotate_left
  · (intro w hE; have a0 := cellb a0 hE; have a1 := cellb a1 hE; have a2 := cellb a2 hE; (try dsimp only); go_simp); (try with_reducible rfl)
  try simp only [Act.put, List.setIfInBounds_toArray, List.set_cons_zero, List.set_cons_succ]
  refine wpAnyE_done (by kernel_rfl) (fun wy2 hE => ?_) _
  have hbz2 := bthen hcz1 hE
  have a0 := cellb a0 hE
  have a1 := cellb a1 hE
  have a2 := cellb a2 hE
  have hv := hv.carry hE
  clear hE
  have hB := hbz2
  obtain ⟨W9, hW9⟩ : ∃ v, v = wy2 := ⟨_, rfl⟩
  rw [← hW9] at hB ⊢
  clear hW9 a0 a1 a2
  go_wp2
  go_ret
  exact ⟨rfl, hB⟩

theorem Tryz.infoStep : (Tryz.prog.info? 104).map (fun i => (i.zero, i.size, i.bytes)) = some (some (.agg #[.int .i64 0, .int .i64 0, .int .i64 0, .int .i64 0]), 4, 32) := by kernel_rfl
theorem Tryz.undSteps : Tryz.prog.underlying 99 = some (.slice 104) := by kernel_rfl
theorem Tryz.infoErr4 : (Tryz.prog.info? 39).map (fun i => (i.zero, i.size, i.bytes)) = some (some (.int .i64 0), 1, 8) := by kernel_rfl
theorem Stp1.of_own {w : World} {base e : Nat} {v : Value} {t p : Int} (h : w.ownsRow base e 4 v 1 [.int .i64 t, .int .i64 p, .int .i64 0, .int .i64 0]) : Stp1 w v t p := by
  rcases h.2 with ⟨_, hn⟩ | ⟨g, cap, cur, hv, _, hg, hc, _, hs, ht⟩
  · omega
  · refine ⟨g, 0, cap, hv, hc, ?_⟩
    have key : ∀ i u, i < 4 → [Value.int .i64 t, .int .i64 p, .int .i64 0, .int .i64 0][i]? = some u → w.cell? ⟨g, 0 + i, none⟩ = some u := fun i u hi hu => by
      have h1 : (cur.toList.take (1 * 4))[i]? = [Value.int .i64 t, .int .i64 p, .int .i64 0, .int .i64 0][i]? := by rw [ht]
      rw [List.getElem?_take_of_lt (by omega), hu] at h1
      have h2 : cur[i]? = some u := by rw [← Array.getElem?_toList]; exact h1
      rw [Nat.zero_add]
      simp [World.cell?, hg, h2]
    exact ⟨key 0 _ (by omega) rfl, key 1 _ (by omega) rfl, key 2 _ (by omega) rfl, key 3 _ (by omega) rfl⟩
theorem own_setCellT {w : World} {base e size n B j : Nat} {v x : Value} {xs : List Value} (h : w.ownsRow base e size v n xs) (hB : B < base) : (w.setCell ⟨B, j, none⟩ x).ownsRow base e size v n xs := by
  refine ⟨h.1, ?_⟩
  rcases h.2 with h1 | ⟨g, cap, cur, hv, hg, hh, hr⟩
  · exact .inl h1
  · exact .inr ⟨g, cap, cur, hv, hg, (Below.heap_setCell _ _ _ _ (show g ≠ B by omega)).trans hh, hr⟩
set_option maxRecDepth 100000 in
set_option maxHeartbeats 2000000 in
theorem steps_one (v : Value) (t p : Int) (w : World) (hv : Ord1 w v t p) : Calls Tryz.prog 39 #[.int .i64 0, v] w fun e w' => (∃ u, e = .returned u ∧ Stp1 w' u t p) ∧ Below w.heap.size w w' := by
  obtain ⟨b, off, cap, rfl, hc, c0, c1⟩ := hv
  obtain ⟨i0, hi, hz0, hz1, hz2⟩ := info_parts Tryz.infoStep
  have hlt0 := lt_of_cellSome c0
  clear hc
  go_enter Tryz.func39, Tryz.ntmps39
  go_upto_region 3 with fail
  obtain ⟨W1, hW1⟩ : ∃ v, v = World.alloc w (Obj.cells #[.int .i64 0, .int .i64 0] 48) := ⟨_, rfl⟩
  have kW1 : Below w.heap.size w W1 := by rw [hW1]; exact below_new _ _
  have iW1 : Blk W1 (w.heap.size) 48 [.int .i64 0, .int .i64 0] := by rw [hW1]; exact Blk.new _ _ _
  have sW1 : W1.heap.size = w.heap.size + 1 := by rw [hW1]; simp
  rw [← hW1]
  clear hW1
  have hB := kW1
  have i1 := iW1
  have hsz : w.heap.size < W1.heap.size := by rw [sW1]; omega
  replace c0 := cellb c0 kW1
  replace c1 := cellb c1 kW1
  clear kW1 iW1 sW1
  obtain ⟨B1, hB1⟩ : ∃ B, B = w.heap.size := ⟨_, rfl⟩
  rw [← hB1] at i1 hsz hlt0 ⊢
  have HB1 := Lib.hid hB1
  clear hB1
  go_wp2_with fail
  go_loopw [5, 13] (fun u i wx => ∃ k : Nat, k ≤ 1 ∧ i = .int .i64 k ∧ (k = 0 → u = .slice none 0 0) ∧ (k = 0 → Blk wx B1 48 [.int .i64 0, .int .i64 0]) ∧ (k = 1 → wx.ownsRow W1.heap.size 104 4 u 1 [.int .i64 t, .int .i64 p, .int .i64 0, .int .i64 0]) ∧ Below B1 W1 wx) (fun _ i _ => 1 - (intOf i).toNat)
  case atStart => exact ⟨0, by omega, rfl, fun _ => rfl, fun _ => i1, fun h => by omega, Below.refl _ _⟩
  case round =>
    obtain ⟨k, hk, rfl, hu, hb, hown, hbel⟩ := hrel
    by_cases h9 : k = 0
    · subst h9
      obtain rfl := hu rfl
      have j1 := hb rfl
      have d0 := (hbel.cell (p := ⟨b, off, none⟩) hlt0).trans c0
      have d1 := (hbel.cell (p := ⟨b, off + 1, none⟩) hlt0).trans c1
      have hsz2 : W1.heap.size ≤ wr.heap.size := hbel.size
      clear hown hu hb c0 c1
      go_upto_region 6 with fail
      obtain ⟨W2, hW2⟩ : ∃ v, v = World.alloc wr (Obj.cells #[.int .i64 t, .int .i64 p] 48) := ⟨_, rfl⟩
      have kW2 : Below wr.heap.size wr W2 := by rw [hW2]; exact below_new _ _
      have iW2 : Blk W2 (wr.heap.size) 48 [.int .i64 t, .int .i64 p] := by rw [hW2]; exact Blk.new _ _ _
      have sW2 : W2.heap.size = wr.heap.size + 1 := by rw [hW2]; simp
      rw [← hW2]
      clear hW2
      have i2 := iW2
      replace j1 := j1.carry kW2
      have hbel2 : Below B1 W1 W2 := hbel.trans (kW2.mono (by omega))
      have hs2 : wr.heap.size ≤ W2.heap.size := kW2.size
      clear iW2 kW2 sW2 d0 d1
      have e0 := i2.cell (j := 0) (v := .int .i64 t) rfl
      have e1 := i2.cell (j := 1) (v := .int .i64 p) rfl
      have e2 := j1.cell (j := 0) (v := .int .i64 0) rfl
      have e3 := j1.cell (j := 1) (v := .int .i64 0) rfl
      go_upto_region 7 with (at_builtin; refine wpList_append_own _ rfl _ _ 99 rfl W1.heap.size 104 i0 _ 4 32 Tryz.undSteps hi hz0 hz1 hz2 rfl (by decide) (.slice none 0 0) 0 [] rfl (World.ownsRow_nil _ _ _ _) ⟨W2.heap.size, 0, none⟩ 1 1 [.int .i64 t, .int .i64 p, .int .i64 0, .int .i64 0] rfl rfl (fun j u hj => by rw [addr_add, Nat.zero_add]; exact (Blk.new W2 104 [.int .i64 t, .int .i64 p, .int .i64 0, .int .i64 0]).cell hj) (by simp [Value.oneCell']) (by unfold maxLen; omega) (by omega) (by simp; omega) ?_; intro v' w3 hown' hgrow _)
      have k3 : Below W2.heap.size W2 w3 := ((below_new W2 (.cells #[.int .i64 t, .int .i64 p, .int .i64 0, .int .i64 0] 104))).grown hgrow (by simp) (fun k hk => by simp [Value.ownBlock] at hk)
      replace i2 := i2.carry k3
      replace j1 := j1.carry k3
      have hbel3 : Below B1 W1 w3 := hbel2.trans (k3.mono (by omega))
      clear e0 e1 e2 e3 k3 hgrow hbel2 hbel
      have e0 := i2.cell (j := 0) (v := .int .i64 t) rfl
      have e1 := i2.cell (j := 1) (v := .int .i64 p) rfl
      have f0 := j1.frozen 0
      have f1 := j1.frozen 1
      have e2 := j1.cell (j := 0) (v := .int .i64 0) rfl
      have e3 := j1.cell (j := 1) (v := .int .i64 0) rfl
      go_wp2_with fail
      go_roundw
      case rel =>
        refine ⟨1, by omega, by go_num, fun h => by omega, fun h => by omega, fun _ => ?_, (hbel3.setCell (by simp) _).setCell (by simp) _⟩
        exact own_setCellT (own_setCellT hown' (by omega)) (by omega)
      case measure => simp [intOf]
    · obtain rfl : k = 1 := by omega
      have hP := Stp1.of_own (hown rfl)
      clear hown hu hb
      go_wp2
      go_ret
      exact ⟨⟨_, rfl, hP⟩, hB.trans (hbel.mono (by rw [HB1.out]; exact Nat.le_refl _))⟩
/-- a row of the call's own. -/
structure OwnS (w : World) (base e : Nat) (v : Value) (n : Nat) (xs : List Value) : Prop where
  o : w.ownsRow base e 1 v n xs
theorem OwnS.carry {w w' : World} {base e n : Nat} {v : Value} {xs : List Value} (h : OwnS w base e v n xs) (hb : Below w.heap.size w w') : OwnS w' base e v n xs := ⟨own_below h.o hb⟩
theorem szT_bd {t p : Int} (h : OkT t p) : 0 ≤ szT p ∧ szT p ≤ 8 := by
  obtain ⟨_, h⟩ := h
  unfold szT
  split <;> omega
set_option maxRecDepth 100000 in
set_option maxHeartbeats 1000000 in
theorem change_one (t p : Int) (w : World) (hok : OkT t p) : Calls Tryz.prog 47 #[.agg #[.int .i64 t, .int .i64 p, .int .i64 0, .int .i64 0]] w fun e w' => e = .returned (.int .i64 (szT p)) ∧ Below w.heap.size w w' := by
  obtain ⟨_, h⟩ := hok
  have q0 : IntKind.i64.wrap (p - 0) = p := by rw [Int.sub_zero]; exact IntWalk.i64_in _ (by omega)
  have q1 : IntKind.i64.wrap (0 - p) = -p := by rw [Int.zero_sub]; exact IntWalk.i64_in _ (by omega)
  have q2 : IntKind.i64.wrap (-p) = -p := IntWalk.i64_in _ (by omega)
  have k1 := below_new w (.cells #[.int .i64 t, .int .i64 p, .int .i64 0, .int .i64 0] 104)
  go_enter Tryz.func47, Tryz.ntmps47
  go_wp2_with fail
  all_goals
    go_ret
    refine ⟨ret_int ?_, k1⟩
    unfold szT
    split <;> omega
/-- what the rules say of the order. -/
def refT (t p : Int) : Int := if t < szT p then 21 else 0
set_option maxRecDepth 100000 in
set_option maxHeartbeats 1000000 in
theorem refused_one (t p : Int) (w : World) (hok : OkT t p) : Calls Tryz.prog 41 #[.agg #[.int .i64 1, .int .i64 (-8), .int .i64 8], .agg #[.int .i64 t, .int .i64 p, .int .i64 0, .int .i64 0]] w fun e w' => e = .returned (.int .i64 (refT t p)) ∧ Below w.heap.size w w' := by
  have hs := szT_bd hok
  have T1 := Lib.hid (fun W => change_one t p W hok)
  obtain ⟨⟨ht0, ht1⟩, h0, h1⟩ := hok
  have TW := Lib.hid (fun W => whenF_any false 30 W)
  rw [show whenE false 30 = 0 from rfl] at TW
  obtain ⟨sz, hsz⟩ : ∃ sz, sz = szT p := ⟨_, rfl⟩
  have hr : refT t p = if t < sz then 21 else 0 := by rw [hsz]; rfl
  rw [← hsz] at T1 hs
  rw [hr]
  obtain ⟨g, hg⟩ : ∃ g : Bool, g = decide (t < sz) := ⟨_, rfl⟩
  have TW2 := Lib.hid (fun W => whenF_any g 21 W)
  obtain ⟨R, hR⟩ : ∃ R, R = whenE g 21 := ⟨_, rfl⟩
  rw [← hR] at TW2
  have TF := Lib.hid (fun (u : Value) (W : World) (h : Ints W u [0, R]) => firstF_any u [0, R] W (by simp [maxLen]) h)
  have hres : firstE [0, R] = if t < sz then 21 else 0 := by
    rw [hR, hg]
    by_cases h : t < sz
    · rw [if_pos h, decide_eq_true h]; rfl
    · rw [if_neg h, decide_eq_false h]; rfl
  rw [hres] at TF
  have q0 : IntKind.i64.wrap (t - 0) = t := by rw [Int.sub_zero]; exact IntWalk.i64_in _ (by omega)
  have q1 : IntKind.i64.wrap (1 * t) = t := by rw [Int.one_mul]; exact IntWalk.i64_in _ (by omega)
  have q2 : IntKind.i64.wrap t = t := IntWalk.i64_in _ (by omega)
  have g0 : decide (p < -8) = false := by simp; omega
  have g1 : decide (8 < p) = false := by simp; omega
  have hg' := hg.symm
  clear hr hsz hs hR hres hg h0 h1
  obtain ⟨E, hE⟩ : ∃ E : Int, E = if t < sz then 21 else 0 := ⟨_, rfl⟩
  rw [← hE] at TF ⊢
  clear hE
  go_enter Tryz.func41, Tryz.ntmps41
  go_upto_region 1 with fail
  obtain ⟨W1, hW1⟩ : ∃ v, v = World.alloc w (Obj.cells #[.int .i64 1, .int .i64 (-8), .int .i64 8] 44) := ⟨_, rfl⟩
  have kW1 : Below w.heap.size w W1 := by rw [hW1]; exact below_new _ _
  have iW1 : Blk W1 (w.heap.size) 44 [.int .i64 1, .int .i64 (-8), .int .i64 8] := by rw [hW1]; exact Blk.new _ _ _
  have sW1 : W1.heap.size = w.heap.size + 1 := by rw [hW1]; simp
  rw [← hW1]
  clear hW1
  obtain ⟨W2, hW2⟩ : ∃ v, v = World.alloc W1 (Obj.cells #[.int .i64 t, .int .i64 p, .int .i64 0, .int .i64 0] 104) := ⟨_, rfl⟩
  have kW2 : Below W1.heap.size W1 W2 := by rw [hW2]; exact below_new _ _
  have iW2 : Blk W2 (w.heap.size + 1) 104 [.int .i64 t, .int .i64 p, .int .i64 0, .int .i64 0] := by rw [hW2, ← sW1]; exact Blk.new _ _ _
  have sW2 : W2.heap.size = w.heap.size + 1 + 1 := by rw [hW2]; simp [sW1]
  rw [← hW2]
  clear hW2
  have i1 := iW1.carry kW2
  have i2 := iW2
  have hB : Below w.heap.size w W2 := bthen kW1 kW2
  clear iW1 iW2 kW1 kW2 sW1 sW2
  have a0 := i1.cell (j := 0) (v := .int .i64 1) rfl
  have a1 := i1.cell (j := 1) (v := .int .i64 (-8)) rfl
  have a2 := i1.cell (j := 2) (v := .int .i64 8) rfl
  have b0 := i2.cell (j := 0) (v := .int .i64 t) rfl
  have b1 := i2.cell (j := 1) (v := .int .i64 p) rfl
  have b2 := i2.cell (j := 2) (v := .int .i64 0) rfl
  have b3 := i2.cell (j := 3) (v := .int .i64 0) rfl
  clear i1 i2
  refine wp_region_E 99 (by kernel_rfl) ?_
  obtain ⟨wz, hwz⟩ : ∃ v, v = W2.drew := ⟨_, rfl⟩
  rw [← hwz]
  have hlz : Below W2.heap.size W2 wz := by rw [hwz]; exact (Below.refl _ _).drew
  have hbz := bthen hB hlz
  have a0 := cellb a0 hlz
  have a1 := cellb a1 hlz
  have a2 := cellb a2 hlz
  have b0 := cellb b0 hlz
  have b1 := cellb b1 hlz
  have b2 := cellb b2 hlz
  have b3 := cellb b3 hlz
  clear hwz hlz
  refine wpAnyE_take (i := 0) (oi := { dst := some 5, op := Op.fieldAddr 104 (Operand.tmp 3) 0, type := 0, pos := "order.go:130", after := #[], guard := none }) (v := ?_) rfl (by kernel_rfl) (by kernel_rfl) (by kernel_rfl) (by kernel_rfl) (fun _ _ _ h => h) (Or.inl ⟨by rfl, ?_⟩) ?_
  rotate_left
  · (intro w hE; have a0 := cellb a0 hE; have a1 := cellb a1 hE; have a2 := cellb a2 hE; have b0 := cellb b0 hE; have b1 := cellb b1 hE; have b2 := cellb b2 hE; have b3 := cellb b3 hE; (try dsimp only); go_simp); (try with_reducible rfl)
  try simp only [Act.put, List.setIfInBounds_toArray, List.set_cons_zero, List.set_cons_succ]
  refine wpAnyE_take (i := 1) (oi := { dst := some 6, op := Op.fieldAddr 48 (Operand.tmp 5) 1, type := 0, pos := "order.go:130", after := #[{ on := 0, ground := Ground.data }], guard := none }) (v := ?_) rfl (by kernel_rfl) (by kernel_rfl) (by kernel_rfl) (by kernel_rfl) (fun _ _ _ h => h) (Or.inl ⟨by rfl, ?_⟩) ?_
  rotate_left
  · (intro w hE; have a0 := cellb a0 hE; have a1 := cellb a1 hE; have a2 := cellb a2 hE; have b0 := cellb b0 hE; have b1 := cellb b1 hE; have b2 := cellb b2 hE; have b3 := cellb b3 hE; (try dsimp only); go_simp); (try with_reducible rfl)
  try simp only [Act.put, List.setIfInBounds_toArray, List.set_cons_zero, List.set_cons_succ]
  refine wpAnyE_take (i := 2) (oi := { dst := some 7, op := Op.load 3 (Operand.tmp 6), type := 3, pos := "order.go:130", after := #[{ on := 1, ground := Ground.data }], guard := none }) (v := ?_) rfl (by kernel_rfl) (by kernel_rfl) (by kernel_rfl) (by kernel_rfl) (fun _ _ _ h => h) (Or.inl ⟨by rfl, ?_⟩) ?_
  rotate_left
  · (intro w hE; have a0 := cellb a0 hE; have a1 := cellb a1 hE; have a2 := cellb a2 hE; have b0 := cellb b0 hE; have b1 := cellb b1 hE; have b2 := cellb b2 hE; have b3 := cellb b3 hE; (try dsimp only); go_simp); (try with_reducible rfl)
  try simp only [Act.put, List.setIfInBounds_toArray, List.set_cons_zero, List.set_cons_succ]
  refine wpAnyE_take (i := 3) (oi := { dst := some 8, op := Op.fieldAddr 44 (Operand.tmp 2) 1, type := 0, pos := "order.go:130", after := #[], guard := none }) (v := ?_) rfl (by kernel_rfl) (by kernel_rfl) (by kernel_rfl) (by kernel_rfl) (fun _ _ _ h => h) (Or.inl ⟨by rfl, ?_⟩) ?_
  rotate_left
  · (intro w hE; have a0 := cellb a0 hE; have a1 := cellb a1 hE; have a2 := cellb a2 hE; have b0 := cellb b0 hE; have b1 := cellb b1 hE; have b2 := cellb b2 hE; have b3 := cellb b3 hE; (try dsimp only); go_simp); (try with_reducible rfl)
  try simp only [Act.put, List.setIfInBounds_toArray, List.set_cons_zero, List.set_cons_succ]
  refine wpAnyE_take (i := 4) (oi := { dst := some 9, op := Op.load 3 (Operand.tmp 8), type := 3, pos := "order.go:130", after := #[{ on := 3, ground := Ground.data }], guard := none }) (v := ?_) rfl (by kernel_rfl) (by kernel_rfl) (by kernel_rfl) (by kernel_rfl) (fun _ _ _ h => h) (Or.inl ⟨by rfl, ?_⟩) ?_
  rotate_left
  · (intro w hE; have a0 := cellb a0 hE; have a1 := cellb a1 hE; have a2 := cellb a2 hE; have b0 := cellb b0 hE; have b1 := cellb b1 hE; have b2 := cellb b2 hE; have b3 := cellb b3 hE; (try dsimp only); go_simp); (try with_reducible rfl)
  try simp only [Act.put, List.setIfInBounds_toArray, List.set_cons_zero, List.set_cons_succ]
  refine wpAnyE_take (i := 5) (oi := { dst := some 10, op := Op.binOp BinOp.lss 3 (Operand.tmp 7) (Operand.tmp 9) 3, type := 4, pos := "order.go:130", after := #[{ on := 2, ground := Ground.data }, { on := 4, ground := Ground.data }], guard := none }) (v := ?_) rfl (by kernel_rfl) (by kernel_rfl) (by kernel_rfl) (by kernel_rfl) (fun _ _ _ h => h) (Or.inl ⟨by rfl, ?_⟩) ?_
  rotate_left
  · (intro w hE; have a0 := cellb a0 hE; have a1 := cellb a1 hE; have a2 := cellb a2 hE; have b0 := cellb b0 hE; have b1 := cellb b1 hE; have b2 := cellb b2 hE; have b3 := cellb b3 hE; (try dsimp only); go_simp); (try with_reducible rfl)
  try simp only [Act.put, List.setIfInBounds_toArray, List.set_cons_zero, List.set_cons_succ]
  refine wpAnyE_take (i := 6) (oi := { dst := some 11, op := Op.move (Operand.tmp 10), type := 4, pos := "order.go:130", after := #[{ on := 5, ground := Ground.data }], guard := none }) (v := ?_) rfl (by kernel_rfl) (by kernel_rfl) (by kernel_rfl) (by kernel_rfl) (fun _ _ _ h => h) (Or.inl ⟨by rfl, ?_⟩) ?_
  rotate_left
  · (intro w hE; have a0 := cellb a0 hE; have a1 := cellb a1 hE; have a2 := cellb a2 hE; have b0 := cellb b0 hE; have b1 := cellb b1 hE; have b2 := cellb b2 hE; have b3 := cellb b3 hE; (try dsimp only); go_simp); (try with_reducible rfl)
  try simp only [Act.put, List.setIfInBounds_toArray, List.set_cons_zero, List.set_cons_succ]
  refine wpAnyE_take (i := 7) (oi := { dst := some 12, op := Op.fieldAddr 104 (Operand.tmp 3) 0, type := 0, pos := "order.go:130", after := #[{ on := 6, ground := Ground.guard }], guard := some (6, false) }) (v := ?_) rfl (by kernel_rfl) (by kernel_rfl) (by kernel_rfl) (by kernel_rfl) (fun _ _ _ h => h) (Or.inl ⟨by rfl, ?_⟩) ?_
  rotate_left
  · (intro w hE; have a0 := cellb a0 hE; have a1 := cellb a1 hE; have a2 := cellb a2 hE; have b0 := cellb b0 hE; have b1 := cellb b1 hE; have b2 := cellb b2 hE; have b3 := cellb b3 hE; (try dsimp only); go_simp); (try with_reducible rfl)
  try simp only [Act.put, List.setIfInBounds_toArray, List.set_cons_zero, List.set_cons_succ]
  refine wpAnyE_take (i := 8) (oi := { dst := some 13, op := Op.fieldAddr 48 (Operand.tmp 12) 1, type := 0, pos := "order.go:130", after := #[{ on := 7, ground := Ground.data }, { on := 6, ground := Ground.guard }], guard := some (6, false) }) (v := ?_) rfl (by kernel_rfl) (by kernel_rfl) (by kernel_rfl) (by kernel_rfl) (fun _ _ _ h => h) (Or.inl ⟨by rfl, ?_⟩) ?_
  rotate_left
  · (intro w hE; have a0 := cellb a0 hE; have a1 := cellb a1 hE; have a2 := cellb a2 hE; have b0 := cellb b0 hE; have b1 := cellb b1 hE; have b2 := cellb b2 hE; have b3 := cellb b3 hE; (try dsimp only); go_simp); (try with_reducible rfl)
  try simp only [Act.put, List.setIfInBounds_toArray, List.set_cons_zero, List.set_cons_succ]
  refine wpAnyE_take (i := 9) (oi := { dst := some 14, op := Op.load 3 (Operand.tmp 13), type := 3, pos := "order.go:130", after := #[{ on := 8, ground := Ground.data }, { on := 6, ground := Ground.guard }], guard := some (6, false) }) (v := ?_) rfl (by kernel_rfl) (by kernel_rfl) (by kernel_rfl) (by kernel_rfl) (fun _ _ _ h => h) (Or.inl ⟨by rfl, ?_⟩) ?_
  rotate_left
  · (intro w hE; have a0 := cellb a0 hE; have a1 := cellb a1 hE; have a2 := cellb a2 hE; have b0 := cellb b0 hE; have b1 := cellb b1 hE; have b2 := cellb b2 hE; have b3 := cellb b3 hE; (try dsimp only); go_simp); (try with_reducible rfl)
  try simp only [Act.put, List.setIfInBounds_toArray, List.set_cons_zero, List.set_cons_succ]
  refine wpAnyE_take (i := 10) (oi := { dst := some 15, op := Op.fieldAddr 44 (Operand.tmp 2) 2, type := 0, pos := "order.go:130", after := #[{ on := 6, ground := Ground.guard }], guard := some (6, false) }) (v := ?_) rfl (by kernel_rfl) (by kernel_rfl) (by kernel_rfl) (by kernel_rfl) (fun _ _ _ h => h) (Or.inl ⟨by rfl, ?_⟩) ?_
  rotate_left
  · (intro w hE; have a0 := cellb a0 hE; have a1 := cellb a1 hE; have a2 := cellb a2 hE; have b0 := cellb b0 hE; have b1 := cellb b1 hE; have b2 := cellb b2 hE; have b3 := cellb b3 hE; (try dsimp only); go_simp); (try with_reducible rfl)
  try simp only [Act.put, List.setIfInBounds_toArray, List.set_cons_zero, List.set_cons_succ]
  refine wpAnyE_take (i := 11) (oi := { dst := some 16, op := Op.load 3 (Operand.tmp 15), type := 3, pos := "order.go:130", after := #[{ on := 10, ground := Ground.data }, { on := 6, ground := Ground.guard }], guard := some (6, false) }) (v := ?_) rfl (by kernel_rfl) (by kernel_rfl) (by kernel_rfl) (by kernel_rfl) (fun _ _ _ h => h) (Or.inl ⟨by rfl, ?_⟩) ?_
  rotate_left
  · (intro w hE; have a0 := cellb a0 hE; have a1 := cellb a1 hE; have a2 := cellb a2 hE; have b0 := cellb b0 hE; have b1 := cellb b1 hE; have b2 := cellb b2 hE; have b3 := cellb b3 hE; (try dsimp only); go_simp); (try with_reducible rfl)
  try simp only [Act.put, List.setIfInBounds_toArray, List.set_cons_zero, List.set_cons_succ]
  refine wpAnyE_take (i := 12) (oi := { dst := some 17, op := Op.binOp BinOp.gtr 3 (Operand.tmp 14) (Operand.tmp 16) 3, type := 4, pos := "order.go:130", after := #[{ on := 9, ground := Ground.data }, { on := 11, ground := Ground.data }, { on := 6, ground := Ground.guard }], guard := some (6, false) }) (v := ?_) rfl (by kernel_rfl) (by kernel_rfl) (by kernel_rfl) (by kernel_rfl) (fun _ _ _ h => h) (Or.inl ⟨by rfl, ?_⟩) ?_
  rotate_left
  · (intro w hE; have a0 := cellb a0 hE; have a1 := cellb a1 hE; have a2 := cellb a2 hE; have b0 := cellb b0 hE; have b1 := cellb b1 hE; have b2 := cellb b2 hE; have b3 := cellb b3 hE; (try dsimp only); go_simp); (try with_reducible rfl)
  try simp only [Act.put, List.setIfInBounds_toArray, List.set_cons_zero, List.set_cons_succ]
  refine wpAnyE_take (i := 13) (oi := { dst := some 18, op := Op.pick (Operand.tmp 11) (Operand.const (Value.bool true)) (Operand.tmp 17), type := 4, pos := "order.go:130", after := #[{ on := 6, ground := Ground.data }, { on := 12, ground := Ground.data }], guard := none }) (v := ?_) rfl (by kernel_rfl) (by kernel_rfl) (by kernel_rfl) (by kernel_rfl) (fun _ _ _ h => h) (Or.inl ⟨by rfl, ?_⟩) ?_
  rotate_left
  · (intro w hE; have a0 := cellb a0 hE; have a1 := cellb a1 hE; have a2 := cellb a2 hE; have b0 := cellb b0 hE; have b1 := cellb b1 hE; have b2 := cellb b2 hE; have b3 := cellb b3 hE; (try dsimp only); go_simp); (try with_reducible rfl)
  try simp only [Act.put, List.setIfInBounds_toArray, List.set_cons_zero, List.set_cons_succ]
  refine wpAnyE_take (i := 15) (oi := { dst := some 20, op := Op.load 104 (Operand.tmp 3), type := 104, pos := "order.go:130", after := #[], guard := none }) (v := ?_) rfl (by kernel_rfl) (by kernel_rfl) (by kernel_rfl) (by kernel_rfl) (fun _ _ _ h => h) (Or.inl ⟨by rfl, ?_⟩) ?_
  rotate_left
  · (intro w hE; have a0 := cellb a0 hE; have a1 := cellb a1 hE; have a2 := cellb a2 hE; have b0 := cellb b0 hE; have b1 := cellb b1 hE; have b2 := cellb b2 hE; have b3 := cellb b3 hE; (try dsimp only); go_simp); (try with_reducible rfl)
  try simp only [Act.put, List.setIfInBounds_toArray, List.set_cons_zero, List.set_cons_succ]
  refine wpAnyE_take (i := 17) (oi := { dst := some 22, op := Op.fieldAddr 44 (Operand.tmp 2) 0, type := 0, pos := "order.go:130", after := #[], guard := none }) (v := ?_) rfl (by kernel_rfl) (by kernel_rfl) (by kernel_rfl) (by kernel_rfl) (fun _ _ _ h => h) (Or.inl ⟨by rfl, ?_⟩) ?_
  rotate_left
  · (intro w hE; have a0 := cellb a0 hE; have a1 := cellb a1 hE; have a2 := cellb a2 hE; have b0 := cellb b0 hE; have b1 := cellb b1 hE; have b2 := cellb b2 hE; have b3 := cellb b3 hE; (try dsimp only); go_simp); (try with_reducible rfl)
  try simp only [Act.put, List.setIfInBounds_toArray, List.set_cons_zero, List.set_cons_succ]
  refine wpAnyE_take (i := 18) (oi := { dst := some 23, op := Op.load 3 (Operand.tmp 22), type := 3, pos := "order.go:130", after := #[{ on := 17, ground := Ground.data }], guard := none }) (v := ?_) rfl (by kernel_rfl) (by kernel_rfl) (by kernel_rfl) (by kernel_rfl) (fun _ _ _ h => h) (Or.inl ⟨by rfl, ?_⟩) ?_
  rotate_left
  · (intro w hE; have a0 := cellb a0 hE; have a1 := cellb a1 hE; have a2 := cellb a2 hE; have b0 := cellb b0 hE; have b1 := cellb b1 hE; have b2 := cellb b2 hE; have b3 := cellb b3 hE; (try dsimp only); go_simp); (try with_reducible rfl)
  try simp only [Act.put, List.setIfInBounds_toArray, List.set_cons_zero, List.set_cons_succ]
  refine wpAnyE_take (i := 19) (oi := { dst := some 24, op := Op.fieldAddr 104 (Operand.tmp 3) 0, type := 0, pos := "order.go:130", after := #[], guard := none }) (v := ?_) rfl (by kernel_rfl) (by kernel_rfl) (by kernel_rfl) (by kernel_rfl) (fun _ _ _ h => h) (Or.inl ⟨by rfl, ?_⟩) ?_
  rotate_left
  · (intro w hE; have a0 := cellb a0 hE; have a1 := cellb a1 hE; have a2 := cellb a2 hE; have b0 := cellb b0 hE; have b1 := cellb b1 hE; have b2 := cellb b2 hE; have b3 := cellb b3 hE; (try dsimp only); go_simp); (try with_reducible rfl)
  try simp only [Act.put, List.setIfInBounds_toArray, List.set_cons_zero, List.set_cons_succ]
  refine wpAnyE_take (i := 20) (oi := { dst := some 25, op := Op.fieldAddr 48 (Operand.tmp 24) 0, type := 0, pos := "order.go:130", after := #[{ on := 19, ground := Ground.data }], guard := none }) (v := ?_) rfl (by kernel_rfl) (by kernel_rfl) (by kernel_rfl) (by kernel_rfl) (fun _ _ _ h => h) (Or.inl ⟨by rfl, ?_⟩) ?_
  rotate_left
  · (intro w hE; have a0 := cellb a0 hE; have a1 := cellb a1 hE; have a2 := cellb a2 hE; have b0 := cellb b0 hE; have b1 := cellb b1 hE; have b2 := cellb b2 hE; have b3 := cellb b3 hE; (try dsimp only); go_simp); (try with_reducible rfl)
  try simp only [Act.put, List.setIfInBounds_toArray, List.set_cons_zero, List.set_cons_succ]
  refine wpAnyE_take (i := 21) (oi := { dst := some 26, op := Op.load 3 (Operand.tmp 25), type := 3, pos := "order.go:130", after := #[{ on := 20, ground := Ground.data }], guard := none }) (v := ?_) rfl (by kernel_rfl) (by kernel_rfl) (by kernel_rfl) (by kernel_rfl) (fun _ _ _ h => h) (Or.inl ⟨by rfl, ?_⟩) ?_
  rotate_left
  · (intro w hE; have a0 := cellb a0 hE; have a1 := cellb a1 hE; have a2 := cellb a2 hE; have b0 := cellb b0 hE; have b1 := cellb b1 hE; have b2 := cellb b2 hE; have b3 := cellb b3 hE; (try dsimp only); go_simp); (try with_reducible rfl)
  try simp only [Act.put, List.setIfInBounds_toArray, List.set_cons_zero, List.set_cons_succ]
  refine wpAnyE_take (i := 22) (oi := { dst := some 27, op := Op.fieldAddr 104 (Operand.tmp 3) 2, type := 0, pos := "order.go:130", after := #[], guard := none }) (v := ?_) rfl (by kernel_rfl) (by kernel_rfl) (by kernel_rfl) (by kernel_rfl) (fun _ _ _ h => h) (Or.inl ⟨by rfl, ?_⟩) ?_
  rotate_left
  · (intro w hE; have a0 := cellb a0 hE; have a1 := cellb a1 hE; have a2 := cellb a2 hE; have b0 := cellb b0 hE; have b1 := cellb b1 hE; have b2 := cellb b2 hE; have b3 := cellb b3 hE; (try dsimp only); go_simp); (try with_reducible rfl)
  try simp only [Act.put, List.setIfInBounds_toArray, List.set_cons_zero, List.set_cons_succ]
  refine wpAnyE_take (i := 23) (oi := { dst := some 28, op := Op.load 3 (Operand.tmp 27), type := 3, pos := "order.go:130", after := #[{ on := 22, ground := Ground.data }], guard := none }) (v := ?_) rfl (by kernel_rfl) (by kernel_rfl) (by kernel_rfl) (by kernel_rfl) (fun _ _ _ h => h) (Or.inl ⟨by rfl, ?_⟩) ?_
  rotate_left
  · (intro w hE; have a0 := cellb a0 hE; have a1 := cellb a1 hE; have a2 := cellb a2 hE; have b0 := cellb b0 hE; have b1 := cellb b1 hE; have b2 := cellb b2 hE; have b3 := cellb b3 hE; (try dsimp only); go_simp); (try with_reducible rfl)
  try simp only [Act.put, List.setIfInBounds_toArray, List.set_cons_zero, List.set_cons_succ]
  refine wpAnyE_take (i := 24) (oi := { dst := some 29, op := Op.binOp BinOp.sub 3 (Operand.tmp 26) (Operand.tmp 28) 3, type := 3, pos := "order.go:130", after := #[{ on := 21, ground := Ground.data }, { on := 23, ground := Ground.data }], guard := none }) (v := ?_) rfl (by kernel_rfl) (by kernel_rfl) (by kernel_rfl) (by kernel_rfl) (fun _ _ _ h => h) (Or.inl ⟨by rfl, ?_⟩) ?_
  rotate_left
  · (intro w hE; have a0 := cellb a0 hE; have a1 := cellb a1 hE; have a2 := cellb a2 hE; have b0 := cellb b0 hE; have b1 := cellb b1 hE; have b2 := cellb b2 hE; have b3 := cellb b3 hE; (try dsimp only); go_simp); (try with_reducible rfl)
  try simp only [Act.put, List.setIfInBounds_toArray, List.set_cons_zero, List.set_cons_succ]
  refine wpAnyE_take (i := 25) (oi := { dst := some 30, op := Op.binOp BinOp.mul 3 (Operand.tmp 23) (Operand.tmp 29) 3, type := 3, pos := "order.go:130", after := #[{ on := 18, ground := Ground.data }, { on := 24, ground := Ground.data }], guard := none }) (v := ?_) rfl (by kernel_rfl) (by kernel_rfl) (by kernel_rfl) (by kernel_rfl) (fun _ _ _ h => h) (Or.inl ⟨by rfl, ?_⟩) ?_
  rotate_left
  · (intro w hE; have a0 := cellb a0 hE; have a1 := cellb a1 hE; have a2 := cellb a2 hE; have b0 := cellb b0 hE; have b1 := cellb b1 hE; have b2 := cellb b2 hE; have b3 := cellb b3 hE; (try dsimp only); go_simp); (try with_reducible rfl)
  try simp only [Act.put, List.setIfInBounds_toArray, List.set_cons_zero, List.set_cons_succ]
  refine wpAnyE_call (i := 14) (oi := { dst := some 19, op := Op.call { callee := Callee.value (Operand.func 46), args := #[Operand.tmp 18, Operand.const (Value.int IntKind.i64 30)], argTypes := #[4, 39] }, type := 39, pos := "order.go:130", after := #[{ on := 13, ground := Ground.data }, { on := 6, ground := Ground.chain }], guard := none }) (fun w hE => ofPure (TW.out w)) rfl (by kernel_rfl) (by kernel_rfl) (by kernel_rfl) (by kernel_rfl) (fun _ _ _ h => h) (by rfl) (fun w hE => by (try dsimp only); go_simp) ?_
  try simp only [Act.put, List.setIfInBounds_toArray, List.set_cons_zero, List.set_cons_succ]
  refine wpAnyE_call (i := 16) (oi := { dst := some 21, op := Op.call { callee := Callee.value (Operand.func 47), args := #[Operand.tmp 20], argTypes := #[104] }, type := 3, pos := "order.go:130", after := #[{ on := 15, ground := Ground.data }, { on := 14, ground := Ground.chain }], guard := none }) (fun w hE => T1.out w) rfl (by kernel_rfl) (by kernel_rfl) (by kernel_rfl) (by kernel_rfl) (fun _ _ _ h => h) (by rfl) (fun w hE => by (try dsimp only); go_simp) ?_
  try simp only [Act.put, List.setIfInBounds_toArray, List.set_cons_zero, List.set_cons_succ]
  refine wpAnyE_take (i := 26) (oi := { dst := some 31, op := Op.binOp BinOp.gtr 3 (Operand.tmp 21) (Operand.tmp 30) 3, type := 4, pos := "order.go:130", after := #[{ on := 16, ground := Ground.data }, { on := 25, ground := Ground.data }], guard := none }) (v := ?_) rfl (by kernel_rfl) (by kernel_rfl) (by kernel_rfl) (by kernel_rfl) (fun _ _ _ h => h) (Or.inl ⟨by rfl, ?_⟩) ?_
  rotate_left
  · (intro w hE; have a0 := cellb a0 hE; have a1 := cellb a1 hE; have a2 := cellb a2 hE; have b0 := cellb b0 hE; have b1 := cellb b1 hE; have b2 := cellb b2 hE; have b3 := cellb b3 hE; (try dsimp only); go_simp); (try with_reducible rfl)
  try simp only [Act.put, List.setIfInBounds_toArray, List.set_cons_zero, List.set_cons_succ]
  refine wpAnyE_call (i := 27) (oi := { dst := some 32, op := Op.call { callee := Callee.value (Operand.func 46), args := #[Operand.tmp 31, Operand.const (Value.int IntKind.i64 21)], argTypes := #[4, 39] }, type := 39, pos := "order.go:130", after := #[{ on := 26, ground := Ground.data }, { on := 16, ground := Ground.chain }], guard := none }) (fun w hE => ofPure (TW2.out w)) rfl (by kernel_rfl) (by kernel_rfl) (by kernel_rfl) (by kernel_rfl) (fun _ _ _ h => h) (by rfl) (fun w hE => by (try dsimp only); go_simp) ?_
  try simp only [Act.put, List.setIfInBounds_toArray, List.set_cons_zero, List.set_cons_succ]
  refine wpAnyE_one (i := 28) (o := { dst := some 33, op := Op.buildSlice 101 2 #[(0, Operand.tmp 19), (1, Operand.tmp 32)], type := 101, pos := "order.go:130", after := #[{ on := 14, ground := Ground.data }, { on := 27, ground := Ground.data }], guard := none }) (by kernel_rfl) rfl (fun wy1 hE K hK => ?_)
  have a0 := cellb a0 hE
  have a1 := cellb a1 hE
  have a2 := cellb a2 hE
  have b0 := cellb b0 hE
  have b1 := cellb b1 hE
  have b2 := cellb b2 hE
  have b3 := cellb b3 hE
  have hbz1 := bthen hbz hE
  clear hE
  go_simp
  obtain ⟨wx1, hwz⟩ : ∃ v, v = wy1.alloc (Obj.cells #[.int .i64 0, .int .i64 R] 39) := ⟨_, rfl⟩
  rw [← hwz]
  have hl : Below wy1.heap.size wy1 wx1 := by rw [hwz]; exact below_new _ _
  have hcz1 := bthen hbz1 hl
  have iN : BlkI wx1 wy1.heap.size 39 [0, R] := by rw [hwz]; exact Blk.new _ _ _
  generalize wy1.heap.size = G at iN ⊢
  have a0 := cellb a0 hl
  have a1 := cellb a1 hl
  have a2 := cellb a2 hl
  have b0 := cellb b0 hl
  have b1 := cellb b1 hl
  have b2 := cellb b2 hl
  have b3 := cellb b3 hl
  clear hwz
  refine hK _ _ (fun _ => hl) ?_
  clear hK K hl
  try simp only [Act.put, List.setIfInBounds_toArray, List.set_cons_zero, List.set_cons_succ]
  refine wpAnyE_call (i := 29) (oi := { dst := some 34, op := Op.call { callee := Callee.value (Operand.func 36), args := #[Operand.tmp 33], argTypes := #[101] }, type := 39, pos := "order.go:130", after := #[{ on := 28, ground := Ground.data }, { on := 27, ground := Ground.chain }], guard := none }) (fun w hE => ofPure (TF.out _ w ((BlkI.ints iN rfl).carry hE))) rfl (by kernel_rfl) (by kernel_rfl) (by kernel_rfl) (by kernel_rfl) (fun _ _ _ h => h) (by rfl) (fun w hE => by (try dsimp only); go_simp) ?_
  try simp only [Act.put, List.setIfInBounds_toArray, List.set_cons_zero, List.set_cons_succ]
  refine wpAnyE_take (i := 30) (oi := { dst := some 4, op := Op.assign (Operand.tmp 34), type := 39, pos := "order.go:130", after := #[{ on := 29, ground := Ground.data }, { on := 29, ground := Ground.chain }, { on := 0, ground := Ground.phase }, { on := 1, ground := Ground.phase }, { on := 2, ground := Ground.phase }, { on := 3, ground := Ground.phase }, { on := 4, ground := Ground.phase }, { on := 5, ground := Ground.phase }, { on := 6, ground := Ground.phase }, { on := 7, ground := Ground.phase }, { on := 8, ground := Ground.phase }, { on := 9, ground := Ground.phase }, { on := 10, ground := Ground.phase }, { on := 11, ground := Ground.phase }, { on := 12, ground := Ground.phase }, { on := 13, ground := Ground.phase }, { on := 14, ground := Ground.phase }, { on := 15, ground := Ground.phase }, { on := 16, ground := Ground.phase }, { on := 17, ground := Ground.phase }, { on := 18, ground := Ground.phase }, { on := 19, ground := Ground.phase }, { on := 20, ground := Ground.phase }, { on := 21, ground := Ground.phase }, { on := 22, ground := Ground.phase }, { on := 23, ground := Ground.phase }, { on := 24, ground := Ground.phase }, { on := 25, ground := Ground.phase }, { on := 26, ground := Ground.phase }, { on := 27, ground := Ground.phase }, { on := 28, ground := Ground.phase }, { on := 29, ground := Ground.phase }], guard := none }) (v := ?_) rfl (by kernel_rfl) (by kernel_rfl) (by kernel_rfl) (by kernel_rfl) (fun _ _ _ h => h) (Or.inl ⟨by rfl, ?_⟩) ?_
  rotate_left
  · (intro w hE; have a0 := cellb a0 hE; have a1 := cellb a1 hE; have a2 := cellb a2 hE; have b0 := cellb b0 hE; have b1 := cellb b1 hE; have b2 := cellb b2 hE; have b3 := cellb b3 hE; (try dsimp only); go_simp); (try with_reducible rfl)
  try simp only [Act.put, List.setIfInBounds_toArray, List.set_cons_zero, List.set_cons_succ]
  refine wpAnyE_done (by kernel_rfl) (fun wy2 hE => ?_) _
  have hbz2 := bthen hcz1 hE
  have a0 := cellb a0 hE
  have a1 := cellb a1 hE
  have a2 := cellb a2 hE
  have b0 := cellb b0 hE
  have b1 := cellb b1 hE
  have b2 := cellb b2 hE
  have b3 := cellb b3 hE
  clear hE
  have hB := hbz2
  obtain ⟨W9, hW9⟩ : ∃ v, v = wy2 := ⟨_, rfl⟩
  rw [← hW9] at hB ⊢
  clear hW9
  go_wp2
  go_ret
  exact ⟨rfl, hB⟩
set_option maxRecDepth 100000 in
set_option maxHeartbeats 2000000 in
theorem mappedS_one (K : Nat) (bd : Array Value) (cp : Array Value) (u : Value) (t p x : Int) (w : World) (hu : Stp1 w u t p)
    (hbd : bd = #[.agg #[.int .i64 1, .int .i64 (-8), .int .i64 8]]) (hcp : cp = #[]) (hK : K = 41)
    (hf : ∀ W, Calls Tryz.prog 41 #[.agg #[.int .i64 1, .int .i64 (-8), .int .i64 8], .agg #[.int .i64 t, .int .i64 p, .int .i64 0, .int .i64 0]] W fun e w' => e = .returned (.int .i64 x) ∧ Below W.heap.size W w') :
    Calls Tryz.prog 40 #[u, .func (.func K) bd cp] w fun e w' => (∃ v, e = .returned v ∧ Ints w' v [x]) ∧ Below w.heap.size w w' := by
  subst hbd hcp hK
  obtain ⟨b, off, cap, rfl, hc, c0, c1, c2, c3⟩ := hu
  obtain ⟨i0, hi, hz0, hz1, hz2⟩ := info_parts Tryz.infoErr4
  clear hc
  go_enter Tryz.func40, Tryz.ntmps40
  go_wp2_with fail
  go_loopw [5, 10] (fun v i wx => ∃ k : Nat, k ≤ 1 ∧ i = .int .i64 k ∧ wx.ownsRow w.heap.size 39 1 v k (([x].take k).map (Value.int .i64)) ∧ Below w.heap.size w wx) (fun _ i _ => 1 - (intOf i).toNat)
  case atStart => exact ⟨0, by omega, rfl, World.ownsRow_nil _ _ _ _, Below.refl _ _⟩
  case round =>
    obtain ⟨k, hk, rfl, hown, hbel⟩ := hrel
    by_cases h9 : k = 0
    · subst h9
      replace c0 := cellb c0 hbel
      replace c1 := cellb c1 hbel
      replace c2 := cellb c2 hbel
      replace c3 := cellb c3 hbel
      go_upto_region 5 with fail
      obtain ⟨W1, hW1⟩ : ∃ v, v = World.alloc wr (Obj.cells #[.int .i64 t, .int .i64 p, .int .i64 0, .int .i64 0] 104) := ⟨_, rfl⟩
      have kW1 : Below wr.heap.size wr W1 := by rw [hW1]; exact below_new _ _
      have iW1 : Blk W1 (wr.heap.size) 104 [.int .i64 t, .int .i64 p, .int .i64 0, .int .i64 0] := by rw [hW1]; exact Blk.new _ _ _
      have sW1 : W1.heap.size = wr.heap.size + 1 := by rw [hW1]; simp
      rw [← hW1]
      clear hW1
      have d0 := iW1.cell (j := 0) (v := .int .i64 t) rfl
      have d1 := iW1.cell (j := 1) (v := .int .i64 p) rfl
      have d2 := iW1.cell (j := 2) (v := .int .i64 0) rfl
      have d3 := iW1.cell (j := 3) (v := .int .i64 0) rfl
      have hown1 := own_below hown kW1
      have hbel1 := bthen hbel kW1
      clear c0 c1 c2 c3 iW1 kW1 sW1 hown hbel
      go_wp2_with fail
      refine (hf W1).mono ?_
      rintro e w2 ⟨rfl, hb2⟩
      have hown2 := own_below hown1 hb2
      have hbel2 := bthen hbel1 hb2
      have hs2 : w.heap.size ≤ w2.heap.size := hbel2.size
      clear d0 d1 d2 d3 hb2 hown1 hbel1
      obtain ⟨ga, gc, rfl⟩ : ∃ a c, u5 = .slice a 0 c := by
        rcases hown2.2 with ⟨h, _⟩ | ⟨g, cap, cur, h, _⟩
        · exact ⟨none, 0, h⟩
        · exact ⟨_, _, h⟩
      go_wp2_with (at_builtin; refine wpList_append_own _ rfl _ _ 101 rfl w.heap.size 39 i0 _ 1 8 Tryz.underlying101 hi hz0 hz1 hz2 rfl (by decide) (.slice ga 0 gc) 0 _ rfl (own_below hown2 (below_new _ _)) ⟨w2.heap.size, 0, none⟩ 1 1 [.int .i64 x] rfl rfl (cell_one_new _ _ _) (by simp [Value.oneCell']) (by unfold maxLen; omega) (by omega) (by simp; omega) ?_; intro v' w3 hown' hgrow _)
      have hbel3 : Below w.heap.size w w3 := (bthen hbel2 (below_new w2 (.cells #[.int .i64 x] 39))).trans ((Below.refl _ _).grown hgrow (by simp; omega) (fun k hk => (World.ownsRow.lt hown2 k hk).1))
      clear hown2 hbel2 hgrow
      go_wp2_with fail
      go_roundw
      case rel => exact ⟨1, by omega, by go_num, hown', hbel3⟩
      case measure => simp [intOf]
    · obtain rfl : k = 1 := by omega
      have hP : Ints wr u5 [x] := Ints.of_own hown rfl
      clear hown
      go_wp2
      go_ret
      exact ⟨⟨_, rfl, hP⟩, hbel⟩
set_option maxRecDepth 100000 in
set_option maxHeartbeats 1000000 in
theorem IndexS_one (K : Nat) (cp : Array Value) (u : Value) (t p : Int) (g : Bool) (w : World) (hu : Stp1 w u t p)
    (henter : ∀ args w, Sem.run Tryz.prog (callFunc K args) w = .ok (.enter K args) w)
    (hf : ∀ W, Below w.heap.size w W → Calls Tryz.prog K (#[.agg #[.int .i64 t, .int .i64 p, .int .i64 0, .int .i64 0]] ++ cp) W fun e w' => e = .returned (.bool g) ∧ Below W.heap.size W w') :
    Calls Tryz.prog 42 #[u, .func (.func K) #[] cp] w fun e w' => e = .returned (.int .i64 (if g = true then 0 else -1)) ∧ Below w.heap.size w w' := by
  obtain ⟨b, off, cap, rfl, hc, c0, c1, c2, c3⟩ := hu
  clear hc
  go_enter Tryz.func42, Tryz.ntmps42
  go_wp2_with fail
  go_loopw [8] (fun i wx => ∃ k : Nat, k ≤ 1 ∧ i = .int .i64 k ∧ (k = 1 → g = false) ∧ Below w.heap.size w wx) (fun i _ => 1 - (intOf i).toNat)
  case atStart => exact ⟨0, by omega, rfl, fun h => by omega, Below.refl _ _⟩
  case round =>
    obtain ⟨k, hk, rfl, hg, hbel⟩ := hrel
    by_cases h9 : k = 0
    · subst h9
      replace c0 := cellb c0 hbel
      replace c1 := cellb c1 hbel
      replace c2 := cellb c2 hbel
      replace c3 := cellb c3 hbel
      clear hg
      cases g with
      | true =>
        go_wp2_with fail
        refine (hf wr hbel).mono ?_
        rintro e w2 ⟨rfl, hb2⟩
        go_wp2
        go_ret
        exact ⟨rfl, bthen hbel hb2⟩
      | false =>
        go_wp2_with fail
        refine (hf wr hbel).mono ?_
        rintro e w2 ⟨rfl, hb2⟩
        go_wp2
        go_roundw
        case rel => exact ⟨1, by omega, by go_num, by simp, bthen hbel hb2⟩
        case measure => simp [intOf]
    · obtain rfl : k = 1 := by omega
      obtain rfl := hg rfl
      go_wp2
      go_ret
      exact ⟨rfl, hbel⟩
theorem Tryz.enterRamp1 (args : Array Value) (w : World) : Sem.run Tryz.prog (callFunc 43 args) w = .ok (.enter 43 args) w :=
  MuLone.run_callFunc_enter Tryz.func43 (by kernel_rfl) rfl args w
theorem Ramp1_one (t p k : Int) (B : Nat) (w : World) (hB : w.cell? ⟨B, 0, none⟩ = some (.int .i64 k)) :
    Calls Tryz.prog 43 #[.agg #[.int .i64 t, .int .i64 p, .int .i64 0, .int .i64 0], .pointer (some ⟨B, 0, none⟩)] w fun e w' => e = .returned (.bool (decide (k ≤ t))) ∧ Below w.heap.size w w' := by
  have k1 := below_new w (.cells #[.int .i64 t, .int .i64 p, .int .i64 0, .int .i64 0] 104)
  have hB2 := cellb hB k1
  go_enter Tryz.func43, Tryz.ntmps43
  go_wp2
  go_ret
  exact ⟨rfl, k1⟩
/-- the ramp. -/
def rmpA (t p k : Int) : Int := if 0 < p then max 0 (p - (t - k)) else min 0 (p + (t - k))
def rmpV (t p k : Int) : Int := if k ≤ t then rmpA t p k else p
set_option maxRecDepth 100000 in
set_option maxHeartbeats 1000000 in
theorem at_one (t p k : Int) (w : World) (hok : OkT t p) (hk : 0 ≤ k ∧ k ≤ t) : Calls Tryz.prog 44 #[.agg #[.int .i64 t, .int .i64 p, .int .i64 0, .int .i64 0], .int .i64 1, .int .i64 k] w fun e w' => e = .returned (.int .i64 (rmpA t p k)) ∧ Below w.heap.size w w' := by
  obtain ⟨⟨ht0, ht1⟩, h0, h1⟩ := hok
  have q0 : IntKind.i64.wrap (t - k) = t - k := IntWalk.i64_in _ (by omega)
  have q1 : IntKind.i64.wrap (1 * (t - k)) = t - k := by rw [Int.one_mul]; exact IntWalk.i64_in _ (by omega)
  have q2 : IntKind.i64.wrap (p - (t - k)) = p - (t - k) := IntWalk.i64_in _ (by omega)
  have q3 : IntKind.i64.wrap (p + (t - k)) = p + (t - k) := IntWalk.i64_in _ (by omega)
  have k1 := below_new w (.cells #[.int .i64 t, .int .i64 p, .int .i64 0, .int .i64 0] 104)
  by_cases hp : 0 < p
  · have hr : rmpA t p k = max 0 (p - (t - k)) := if_pos hp
    rw [hr]
    obtain ⟨L, hL⟩ : ∃ L, L = t - k := ⟨_, rfl⟩
    clear hr
    go_enter Tryz.func44, Tryz.ntmps44
    go_wp2_with fail
    all_goals
      go_ret
      exact ⟨ret_int (by omega), k1⟩
  · have hr : rmpA t p k = min 0 (p + (t - k)) := if_neg hp
    rw [hr]
    have hp2 : decide (0 < p) = false := by simp; omega
    clear hr
    go_enter Tryz.func44, Tryz.ntmps44
    go_wp2_with fail
    all_goals
      go_ret
      exact ⟨ret_int (by omega), k1⟩
theorem Tryz.infoInt5 : (Tryz.prog.info? 3).map (fun i => (i.zero, i.size, i.bytes)) = some (some (.int .i64 0), 1, 8) := by kernel_rfl
def rmpL (t p : Int) (n : Nat) : List Int := (List.range n).map fun (k : Nat) => rmpV t p (k : Int)
theorem rmpL_succ (t p : Int) (n : Nat) : (rmpL t p (n + 1)).map (Value.int .i64) = (rmpL t p n).map (Value.int .i64) ++ [.int .i64 (rmpV t p (n : Int))] := by
  unfold rmpL
  rw [List.range_succ, List.map_append, List.map_append]; rfl
theorem rmpL_len (t p : Int) (n : Nat) : (rmpL t p n).length = n := by simp [rmpL]
set_option maxRecDepth 100000 in
set_option maxHeartbeats 1000000 in
theorem Ramp_bad (v : Value) (t p : Int) (w : World) (hv : Ord1 w v t p) (hok : OkT t p) (hbad : t < szT p) :
    Calls Tryz.prog 11 #[.agg #[.int .i64 1, .int .i64 (-8), .int .i64 8], .int .i64 0, v, .int .i64 50] w fun e w' => e = .returned (.tuple #[.slice none 0 0, .int .i64 21]) ∧ Below w.heap.size w w' := by
  have TC := Lib.hid (fun W h => check_ok v t p W h hok)
  have T2 := Lib.hid (fun W => withinF_any 50 1 256 W)
  rw [wiF (by omega)] at T2
  have TF := Lib.hid (fun (u : Value) (W : World) (h : Ints W u [0, 0]) => firstF_any u [0, 0] W (by simp [maxLen]) h)
  rw [show firstE [0, 0] = 0 from rfl] at TF
  have TS := Lib.hid (fun W h => steps_one v t p W h)
  have hr : refT t p = 21 := if_pos hbad
  have TM := Lib.hid (fun (u : Value) (W : World) h => mappedS_one _ _ #[] u t p (refT t p) W h rfl rfl rfl (fun W => refused_one t p W hok))
  rw [hr] at TM
  have TG := Lib.hid (fun (u : Value) (W : World) (h : Ints W u [21]) => firstF_any u [21] W (by simp [maxLen]) h)
  rw [show firstE [21] = 21 from rfl] at TG
  clear hr hbad hok
  go_enter Tryz.func11, Tryz.ntmps11
  go_upto_region 1 with fail
  obtain ⟨W1, hW1⟩ : ∃ v, v = World.alloc w (Obj.cells #[.int .i64 1, .int .i64 (-8), .int .i64 8] 44) := ⟨_, rfl⟩
  have kW1 : Below w.heap.size w W1 := by rw [hW1]; exact below_new _ _
  have iW1 : Blk W1 (w.heap.size) 44 [.int .i64 1, .int .i64 (-8), .int .i64 8] := by rw [hW1]; exact Blk.new _ _ _
  have sW1 : W1.heap.size = w.heap.size + 1 := by rw [hW1]; simp
  rw [← hW1]
  clear hW1
  have a0 := iW1.cell (j := 0) (v := .int .i64 1) rfl
  have a1 := iW1.cell (j := 1) (v := .int .i64 (-8)) rfl
  have a2 := iW1.cell (j := 2) (v := .int .i64 8) rfl
  replace hv := hv.carry kW1
  have hB := kW1
  clear iW1 kW1 sW1
  go_wp2_with fail
  refine (TC.out W1 hv).mono ?_
  rintro e w2 ⟨rfl, hb2⟩
  replace hv := hv.carry hb2
  replace hB := bthen hB hb2
  have a0 := cellb a0 hb2
  have a1 := cellb a1 hb2
  have a2 := cellb a2 hb2
  clear hb2
  go_wp2_with fail
  refine (T2.out _).mono ?_
  rintro e w3 ⟨rfl, rfl⟩
  go_wp2_with fail
  refine (TF.out _ _ (Ints.lit w2 39 [0, 0] 2 rfl)).mono ?_
  rintro e W4 ⟨rfl, hw4⟩
  have k4 : Below w2.heap.size w2 W4 := by rw [← hw4]; exact below_new _ _
  clear hw4
  replace hv := hv.carry k4
  replace hB := bthen hB k4
  have a0 := cellb a0 k4
  have a1 := cellb a1 k4
  have a2 := cellb a2 k4
  clear k4
  go_wp2_with fail
  refine (TS.out W4 hv).mono ?_
  rintro e w5 ⟨⟨u, rfl, hu⟩, hb5⟩
  replace hB := bthen hB hb5
  have a0 := cellb a0 hb5
  have a1 := cellb a1 hb5
  have a2 := cellb a2 hb5
  clear hb5 hv
  go_wp2_with fail
  refine (TM.out u w5 hu).mono ?_
  rintro e w6 ⟨⟨x, rfl, hx⟩, hb6⟩
  replace hB := bthen hB hb6
  clear a0 a1 a2 hb6 hu
  go_wp2_with fail
  refine (TG.out x w6 hx).mono ?_
  rintro e w7 ⟨rfl, rfl⟩
  go_wp2
  go_ret2
  exact ⟨rfl, hB⟩
set_option maxRecDepth 100000 in
set_option maxHeartbeats 4000000 in
theorem Ramp_ok (v : Value) (t p : Int) (w : World) (hv : Ord1 w v t p) (hok : OkT t p) (hgood : ¬ t < szT p) :
    Calls Tryz.prog 11 #[.agg #[.int .i64 1, .int .i64 (-8), .int .i64 8], .int .i64 0, v, .int .i64 50] w fun e w' => (∃ u, e = .returned (.tuple #[u, .int .i64 0]) ∧ Ints w' u (rmpL t p 50)) ∧ Below w.heap.size w w' := by
  have HOK := Lib.hid hok
  have TC := Lib.hid (fun W h => check_ok v t p W h hok)
  have T2 := Lib.hid (fun W => withinF_any 50 1 256 W)
  rw [wiF (by omega)] at T2
  have TF := Lib.hid (fun (u : Value) (W : World) (h : Ints W u [0, 0]) => firstF_any u [0, 0] W (by simp [maxLen]) h)
  rw [show firstE [0, 0] = 0 from rfl] at TF
  have TS := Lib.hid (fun W h => steps_one v t p W h)
  have hr : refT t p = 0 := if_neg hgood
  have TM := Lib.hid (fun (u : Value) (W : World) h => mappedS_one _ _ #[] u t p (refT t p) W h rfl rfl rfl (fun W => refused_one t p W hok))
  rw [hr] at TM
  have TG := Lib.hid (fun (u : Value) (W : World) (h : Ints W u [0]) => firstF_any u [0] W (by simp [maxLen]) h)
  rw [show firstE [0] = 0 from rfl] at TG
  obtain ⟨i0, hi, hz0, hz1, hz2⟩ := info_parts Tryz.infoInt5
  clear hr hgood hok
  go_enter Tryz.func11, Tryz.ntmps11
  go_upto_region 1 with fail
  obtain ⟨W1, hW1⟩ : ∃ v, v = World.alloc w (Obj.cells #[.int .i64 1, .int .i64 (-8), .int .i64 8] 44) := ⟨_, rfl⟩
  have kW1 : Below w.heap.size w W1 := by rw [hW1]; exact below_new _ _
  have iW1 : Blk W1 (w.heap.size) 44 [.int .i64 1, .int .i64 (-8), .int .i64 8] := by rw [hW1]; exact Blk.new _ _ _
  have sW1 : W1.heap.size = w.heap.size + 1 := by rw [hW1]; simp
  rw [← hW1]
  clear hW1
  have a0 := iW1.cell (j := 0) (v := .int .i64 1) rfl
  have a1 := iW1.cell (j := 1) (v := .int .i64 (-8)) rfl
  have a2 := iW1.cell (j := 2) (v := .int .i64 8) rfl
  replace hv := hv.carry kW1
  have hB := kW1
  clear iW1 kW1 sW1
  go_wp2_with fail
  refine (TC.out W1 hv).mono ?_
  rintro e w2 ⟨rfl, hb2⟩
  replace hv := hv.carry hb2
  replace hB := bthen hB hb2
  have a0 := cellb a0 hb2
  have a1 := cellb a1 hb2
  have a2 := cellb a2 hb2
  clear hb2
  go_wp2_with fail
  refine (T2.out _).mono ?_
  rintro e w3 ⟨rfl, rfl⟩
  go_wp2_with fail
  refine (TF.out _ _ (Ints.lit w2 39 [0, 0] 2 rfl)).mono ?_
  rintro e W4 ⟨rfl, hw4⟩
  have k4 : Below w2.heap.size w2 W4 := by rw [← hw4]; exact below_new _ _
  clear hw4
  replace hv := hv.carry k4
  replace hB := bthen hB k4
  have a0 := cellb a0 k4
  have a1 := cellb a1 k4
  have a2 := cellb a2 k4
  clear k4
  go_wp2_with fail
  refine (TS.out W4 hv).mono ?_
  rintro e w5 ⟨⟨u, rfl, hu⟩, hb5⟩
  replace hB := bthen hB hb5
  have a0 := cellb a0 hb5
  have a1 := cellb a1 hb5
  have a2 := cellb a2 hb5
  clear hb5 hv
  go_wp2_with fail
  refine (TM.out u w5 hu).mono ?_
  rintro e w6 ⟨⟨x, rfl, hx⟩, hb6⟩
  replace hB := bthen hB hb6
  replace hu := hu.carry hb6
  replace a0 := cellb a0 hb6
  clear a1 a2 hb6
  go_wp2_with fail
  refine (TG.out x w6 hx).mono ?_
  rintro e w7 ⟨rfl, rfl⟩
  clear hx
  have HU := Lib.hid hu
  obtain ⟨ub, uo, uc, rfl, _, _⟩ := hu
  go_wp2_with fail
  have HA0 := Lib.hid a0
  clear a0
  go_loopw [13, 39] (fun o i wx => ∃ k : Nat, k ≤ 50 ∧ i = .int .i64 k ∧ wx.ownsRow w6.heap.size 3 1 o k ((rmpL t p k).map (Value.int .i64)) ∧ Below w6.heap.size w6 wx) (fun _ i _ => 50 - (intOf i).toNat)
  case atStart => exact ⟨0, by omega, rfl, World.ownsRow_nil _ _ _ _, Below.refl _ _⟩
  case round =>
    obtain ⟨k, hk, rfl, hown, hbel⟩ := hrel
    by_cases hlt : k < 50
    · have hdk : (k : Int) < 50 := by omega
      obtain ⟨ki, hki⟩ : ∃ ki : Int, ki = (k : Int) := ⟨_, rfl⟩
      go_upto_region 12 with fail
      obtain ⟨W8, hW8⟩ : ∃ v, v = World.alloc wr (Obj.cells #[.int .i64 (k : Int)] 3) := ⟨_, rfl⟩
      have kW8 : Below wr.heap.size wr W8 := by rw [hW8]; exact below_new _ _
      have iW8 : Blk W8 (wr.heap.size) 3 [.int .i64 (k : Int)] := by rw [hW8]; exact Blk.new _ _ _
      have sW8 : W8.heap.size = wr.heap.size + 1 := by rw [hW8]; simp
      rw [← hW8]
      clear hW8
      have HGO := Lib.hid (fun g e => (World.ownsRow.lt hown g e).2)
      have hown1 := own_below hown kW8
      have hbel1 := bthen hbel kW8
      have i8 := iW8
      have hu8 := HU.out.carry hbel1
      have c8 := i8.cell (j := 0) (v := .int .i64 (k : Int)) rfl
      have TI := Lib.hid (IndexS_one 43 #[.pointer (some ⟨wr.heap.size, 0, none⟩)] (.slice (some ⟨ub, uo, none⟩) 1 uc) t p (decide ((k : Int) ≤ t)) W8 hu8 Tryz.enterRamp1 (fun W hE => Ramp1_one t p (k : Int) wr.heap.size W (cellb c8 hE)))
      clear iW8 kW8 sW8 hown hbel hu8
      have hs8 : w6.heap.size ≤ W8.heap.size := hbel1.size
      by_cases hkt : (k : Int) ≤ t
      · rw [show decide ((k : Int) ≤ t) = true by simp [hkt], if_pos rfl] at TI
        have TA := Lib.hid (fun W => at_one t p (k : Int) W HOK.out (by omega))
        have hrv : rmpV t p (k : Int) = rmpA t p (k : Int) := if_pos hkt
        obtain ⟨R, hR⟩ : ∃ R, R = rmpA t p (k : Int) := ⟨_, rfl⟩
        rw [← hR] at TA hrv
        have HRV := Lib.hid hrv
        clear hR hrv
        obtain ⟨xb, xo, xc, hxe, _, c0, c1, c2, c3⟩ := HU.out
        simp only [Value.slice.injEq, Option.some.injEq, Addr.mk.injEq] at hxe
        obtain ⟨⟨rfl, rfl, -⟩, -, rfl⟩ := hxe
        have a0 := HA0.out
        have hGo : ∀ g, u13.ownBlock = some g → g < wr.heap.size := HGO.out
        clear hki
        go_wp2_with fail
        refine TI.out.mono ?_
        rintro e w9 ⟨rfl, hb9⟩
        have hown2 := own_below hown1 hb9
        have hbel2 := bthen hbel1 hb9
        replace i8 := i8.carry hb9
        obtain ⟨oa, oc, rfl⟩ : ∃ a c, u13 = .slice a k c := by
          rcases hown2.2 with ⟨h, h0⟩ | ⟨g, cap, cur, h, _⟩
          · exact ⟨none, 0, by rw [h, h0]⟩
          · exact ⟨_, _, h⟩
        obtain ⟨B8, hB8⟩ : ∃ B, B = wr.heap.size := ⟨_, rfl⟩
        rw [← hB8] at i8 hGo ⊢
        have hown2 : OwnS w9 w6.heap.size 3 (.slice oa k oc) k ((rmpL t p k).map (Value.int .i64)) := ⟨hown2⟩
        clear hb9 hown1 hbel1 hB8 c8 TI
        go_upto_region 15 with fail
        refine wp_region_held_drew (S := (fun W => Blk W B8 3 [.int .i64 (k : Int)] ∧ W.cell? ⟨ub, uo, none⟩ = some (.int .i64 t) ∧ W.cell? ⟨ub, uo + 1, none⟩ = some (.int .i64 p) ∧ W.cell? ⟨ub, uo + 2, none⟩ = some (.int .i64 0) ∧ W.cell? ⟨ub, uo + 3, none⟩ = some (.int .i64 0) ∧ W.cell? ⟨w.heap.size, 0, none⟩ = some (.int .i64 1))) (by kernel_rfl) ⟨i8, cellb c0 hbel2.drew, cellb c1 hbel2.drew, cellb c2 hbel2.drew, cellb c3 hbel2.drew, cellb a0 hbel2.drew⟩ (fun hHeld0 => ?_)
        obtain ⟨wzd, hwz⟩ : ∃ v, v = w9.drew := ⟨_, rfl⟩
        rw [← hwz] at hHeld0 ⊢
        have hbzd : Below w6.heap.size w6 wzd := by rw [hwz]; exact hbel2.drew
        have hlzd : Below w9.heap.size w9 wzd := by rw [hwz]; exact (Below.refl _ _).drew
        have hown2 := hown2.carry hlzd
        have i8 := i8.carry hlzd
        clear hwz hlzd
        refine wpAnyH_take (i := 0) (oi := { dst := some 52, op := Op.move (Operand.tmp 13), type := 42, pos := "order.go:165", after := #[], guard := none }) (v := ?_) rfl (by kernel_rfl) (by kernel_rfl) (by kernel_rfl) (fun _ _ _ h => h) (Or.inl ⟨by rfl, ?_⟩) (by assumption) ?_
        rotate_left
        · (intro w hSw; (try dsimp only at hSw); go_simp); (try with_reducible rfl)
        try simp only [Act.put, List.setIfInBounds_toArray, List.set_cons_zero, List.set_cons_succ]
        refine wpAnyH_take (i := 1) (oi := { dst := some 53, op := Op.move (Operand.tmp 11), type := 99, pos := "order.go:165", after := #[], guard := none }) (v := ?_) rfl (by kernel_rfl) (by kernel_rfl) (by kernel_rfl) (fun _ _ _ h => h) (Or.inl ⟨by rfl, ?_⟩) (by assumption) ?_
        rotate_left
        · (intro w hSw; (try dsimp only at hSw); go_simp); (try with_reducible rfl)
        try simp only [Act.put, List.setIfInBounds_toArray, List.set_cons_zero, List.set_cons_succ]
        refine wpAnyH_take (i := 2) (oi := { dst := some 54, op := Op.move (Operand.tmp 15), type := 3, pos := "order.go:165", after := #[], guard := none }) (v := ?_) rfl (by kernel_rfl) (by kernel_rfl) (by kernel_rfl) (fun _ _ _ h => h) (Or.inl ⟨by rfl, ?_⟩) (by assumption) ?_
        rotate_left
        · (intro w hSw; (try dsimp only at hSw); go_simp); (try with_reducible rfl)
        try simp only [Act.put, List.setIfInBounds_toArray, List.set_cons_zero, List.set_cons_succ]
        refine wpAnyH_take (i := 3) (oi := { dst := some 55, op := Op.indexAddr 99 (Operand.tmp 53) (Operand.tmp 54), type := 0, pos := "order.go:165", after := #[{ on := 1, ground := Ground.data }, { on := 2, ground := Ground.data }], guard := none }) (v := ?_) rfl (by kernel_rfl) (by kernel_rfl) (by kernel_rfl) (fun _ _ _ h => h) (Or.inl ⟨by rfl, ?_⟩) (by assumption) ?_
        rotate_left
        · (intro w hSw; (try dsimp only at hSw); go_simp); (try with_reducible rfl)
        try simp only [Act.put, List.setIfInBounds_toArray, List.set_cons_zero, List.set_cons_succ]
        refine wpAnyH_take (i := 4) (oi := { dst := some 56, op := Op.load 104 (Operand.tmp 55), type := 104, pos := "order.go:165", after := #[{ on := 3, ground := Ground.data }], guard := none }) (v := ?_) rfl (by kernel_rfl) (by kernel_rfl) (by kernel_rfl) (fun _ _ _ h => h) (Or.inl ⟨by rfl, ?_⟩) (by assumption) ?_
        rotate_left
        · (intro w hSw; (try dsimp only at hSw); go_simp); (try with_reducible rfl)
        try simp only [Act.put, List.setIfInBounds_toArray, List.set_cons_zero, List.set_cons_succ]
        refine wpAnyH_take (i := 5) (oi := { dst := some 57, op := Op.fieldAddr 44 (Operand.tmp 4) 0, type := 0, pos := "order.go:165", after := #[], guard := none }) (v := ?_) rfl (by kernel_rfl) (by kernel_rfl) (by kernel_rfl) (fun _ _ _ h => h) (Or.inl ⟨by rfl, ?_⟩) (by assumption) ?_
        rotate_left
        · (intro w hSw; (try dsimp only at hSw); go_simp); (try with_reducible rfl)
        try simp only [Act.put, List.setIfInBounds_toArray, List.set_cons_zero, List.set_cons_succ]
        refine wpAnyH_take (i := 6) (oi := { dst := some 58, op := Op.load 3 (Operand.tmp 57), type := 3, pos := "order.go:165", after := #[{ on := 5, ground := Ground.data }], guard := none }) (v := ?_) rfl (by kernel_rfl) (by kernel_rfl) (by kernel_rfl) (fun _ _ _ h => h) (Or.inl ⟨by rfl, ?_⟩) (by assumption) ?_
        rotate_left
        · (intro w hSw; (try dsimp only at hSw); go_simp); (try with_reducible rfl)
        try simp only [Act.put, List.setIfInBounds_toArray, List.set_cons_zero, List.set_cons_succ]
        refine wpAnyH_take (i := 7) (oi := { dst := some 59, op := Op.load 3 (Operand.tmp 14), type := 3, pos := "order.go:165", after := #[], guard := none }) (v := ?_) rfl (by kernel_rfl) (by kernel_rfl) (by kernel_rfl) (fun _ _ _ h => h) (Or.inl ⟨by rfl, ?_⟩) (by assumption) ?_
        rotate_left
        · (intro w hSw; (try dsimp only at hSw); have q0 := hSw.1.cell (j := 0) (v := .int .i64 (k : Int)) rfl; clear hSw; go_simp); (try with_reducible rfl)
        try simp only [Act.put, List.setIfInBounds_toArray, List.set_cons_zero, List.set_cons_succ]
        refine wpAnyH_ready (rs := [8]) (by kernel_rfl) (by simp) ?_
        refine (AllReadyH.cons (o := { dst := some 60, op := Op.call { callee := Callee.value (Operand.func 44), args := #[Operand.tmp 56, Operand.tmp 58, Operand.tmp 59], argTypes := #[104, 3, 3] }, type := 3, pos := "order.go:165", after := #[{ on := 4, ground := Ground.data }, { on := 6, ground := Ground.data }, { on := 7, ground := Ground.data }], guard := none }) rfl (fun K hK => ?_) AllReadyH.nil)
        go_simp
        refine (TA.out wzd).mono ?_
        rintro e wz8 ⟨rfl, hl⟩
        (try go_wp2_with fail)
        have hbz8 := bthen hbzd hl
        have hown2 := hown2.carry hl
        have i8 := i8.carry hl
        clear hl
        refine hK.out _ _ ⟨i8, cellb c0 hbz8, cellb c1 hbz8, cellb c2 hbz8, cellb c3 hbz8, cellb a0 hbz8⟩ (fun hHeld1 => ?_)
        clear hK K hHeld0
        try simp only [Act.put, List.setIfInBounds_toArray, List.set_cons_zero, List.set_cons_succ]
        refine wpAnyH_ready (rs := [9]) (by kernel_rfl) (by simp) ?_
        refine (AllReadyH.cons (o := { dst := some 61, op := Op.buildSlice 42 1 #[(0, Operand.tmp 60)], type := 42, pos := "order.go:165", after := #[{ on := 8, ground := Ground.data }], guard := none }) rfl (fun K hK => ?_) AllReadyH.nil)
        go_simp
        obtain ⟨wz9, hwz⟩ : ∃ v, v = wz8.alloc (Obj.cells #[.int .i64 R] 3) := ⟨_, rfl⟩
        rw [← hwz]
        have hl : Below wz8.heap.size wz8 wz9 := by rw [hwz]; exact below_new _ _
        have hbz9 := bthen hbz8 hl
        have iN : Blk wz9 wz8.heap.size 3 [.int .i64 R] := by rw [hwz]; exact Blk.new _ _ _
        generalize wz8.heap.size = G at iN ⊢
        clear hwz
        have hown2 := hown2.carry hl
        have i8 := i8.carry hl
        clear hl
        refine hK.out _ _ ⟨i8, cellb c0 hbz9, cellb c1 hbz9, cellb c2 hbz9, cellb c3 hbz9, cellb a0 hbz9⟩ (fun hHeld2 => ?_)
        clear hK K hHeld1
        try simp only [Act.put, List.setIfInBounds_toArray, List.set_cons_zero, List.set_cons_succ]
        refine wpAnyH_ready (rs := [10]) (by kernel_rfl) (by simp) ?_
        refine (AllReadyH.cons (o := { dst := some 62, op := Op.call { callee := Callee.builtin Builtin.append, args := #[Operand.tmp 52, Operand.tmp 61], argTypes := #[42, 42] }, type := 42, pos := "order.go:165", after := #[{ on := 0, ground := Ground.data }, { on := 9, ground := Ground.data }, { on := 8, ground := Ground.chain }], guard := none }) rfl (fun K hK => ?_) AllReadyH.nil)
        have hsz := (hbz9).size
        refine wp_append_own wz9 (.tmp 52) (.tmp 61) 42 rfl w6.heap.size 3 i0 (.int .i64 0) 1 8 Tryz.underlying42 hi hz0 hz1 hz2 rfl (by decide) (.slice oa k oc) k _ rfl hown2.o ⟨G, 0, none⟩ 1 1 [.int .i64 R] rfl rfl (fun j u hj => by rw [addr_add, Nat.zero_add]; exact iN.cell hj) (by simp [Value.oneCell']) (by unfold maxLen; omega) (by omega) hsz ?_
        intro v9 wz10 hown9 hgrow9 _
        have hbz10 := (hbz9).grown hgrow9 hsz (fun k' hk' => (World.ownsRow.lt hown2.o k' hk').1)
        replace i8 := Blk.kept i8 hgrow9 (fun e => Nat.lt_irrefl _ (hGo B8 e.symm))
        refine hK.out _ _ ⟨i8, cellb c0 hbz10, cellb c1 hbz10, cellb c2 hbz10, cellb c3 hbz10, cellb a0 hbz10⟩ (fun hHeld3 => ?_)
        clear hK K hHeld2
        try simp only [Act.put, List.setIfInBounds_toArray, List.set_cons_zero, List.set_cons_succ]
        refine wpAnyH_take (i := 11) (oi := { dst := some 13, op := Op.assign (Operand.tmp 62), type := 42, pos := "order.go:165", after := #[{ on := 10, ground := Ground.data }, { on := 10, ground := Ground.chain }, { on := 0, ground := Ground.phase }, { on := 1, ground := Ground.phase }, { on := 2, ground := Ground.phase }, { on := 3, ground := Ground.phase }, { on := 4, ground := Ground.phase }, { on := 5, ground := Ground.phase }, { on := 6, ground := Ground.phase }, { on := 7, ground := Ground.phase }, { on := 8, ground := Ground.phase }, { on := 9, ground := Ground.phase }, { on := 10, ground := Ground.phase }], guard := none }) (v := ?_) rfl (by kernel_rfl) (by kernel_rfl) (by kernel_rfl) (fun _ _ _ h => h) (Or.inl ⟨by rfl, ?_⟩) (by assumption) ?_
        rotate_left
        · (intro w hSw; (try dsimp only at hSw); go_simp); (try with_reducible rfl)
        try simp only [Act.put, List.setIfInBounds_toArray, List.set_cons_zero, List.set_cons_succ]
        refine wpAnyH_done (by kernel_rfl) ?_ _
        clear hHeld3
        have hB9 := hbz10
        obtain ⟨W4, hW4⟩ : ∃ v, v = wz10 := ⟨_, rfl⟩
        rw [← hW4] at hB9 hown9 ⊢
        clear hW4
        have hown4 : W4.ownsRow w6.heap.size 3 1 v9 (k + 1) ((rmpL t p (k + 1)).map (Value.int .i64)) := by
          rw [rmpL_succ, HRV.out]; exact hown9
        clear hown9 c0 c1 c2 c3 a0
        go_wp2_with fail
        go_roundw
        case rel => exact ⟨k + 1, by omega, by go_num, hown4, hB9⟩
        case measure => simp [intOf]; omega
      · rw [show decide ((k : Int) ≤ t) = false by simp; omega, if_neg (by decide)] at TI
        have hrv : rmpV t p (k : Int) = p := if_neg hkt
        have HRV := Lib.hid hrv
        clear hrv
        obtain ⟨xb, xo, xc, hxe, _, c0, c1, c2, c3⟩ := HU.out.carry hbel1
        simp only [Value.slice.injEq, Option.some.injEq, Addr.mk.injEq] at hxe
        obtain ⟨⟨rfl, rfl, -⟩, -, rfl⟩ := hxe
        clear hki i8
        go_wp2_with fail
        refine TI.out.mono ?_
        rintro e w9 ⟨rfl, hb9⟩
        have hown2 := own_below hown1 hb9
        have hbel2 := bthen hbel1 hb9
        have c1 := cellb c1 hb9
        have hs9 : w6.heap.size ≤ w9.heap.size := hbel2.size
        obtain ⟨oa, oc, rfl⟩ : ∃ a c, u13 = .slice a k c := by
          rcases hown2.2 with ⟨h, h0⟩ | ⟨g, cap, cur, h, _⟩
          · exact ⟨none, 0, by rw [h, h0]⟩
          · exact ⟨_, _, h⟩
        clear hb9 hown1 hbel1 c0 c2 c3 c8
        go_wp2_with (at_builtin; refine wpList_append_own _ rfl (.tmp 67) (.tmp 76) 42 rfl w6.heap.size 3 i0 _ 1 8 Tryz.underlying42 hi hz0 hz1 hz2 rfl (by decide) (.slice oa k oc) k _ rfl (own_below hown2 (below_new _ _)) ⟨w9.heap.size, 0, none⟩ 1 1 [.int .i64 p] rfl rfl (cell_one_new _ _ _) (by simp [Value.oneCell']) (by unfold maxLen; omega) (by omega) (by simp; omega) ?_; intro v9 W4 hown9 hgrow9 _)
        have hB9 : Below w6.heap.size w6 W4 := (bthen hbel2 (below_new w9 (.cells #[.int .i64 p] 3))).trans ((Below.refl _ _).grown hgrow9 (by simp; omega) (fun k hk => (World.ownsRow.lt hown2 k hk).1))
        have hown4 : W4.ownsRow w6.heap.size 3 1 v9 (k + 1) ((rmpL t p (k + 1)).map (Value.int .i64)) := by
          rw [rmpL_succ, HRV.out]; exact hown9
        clear hown9 hown2 hbel2 hgrow9 c1
        go_wp2_with fail
        go_roundw
        case rel => exact ⟨k + 1, by omega, by go_num, hown4, hB9⟩
        case measure => simp [intOf]; omega
    · have hk5 : k = 50 := by omega
      have hP : Ints wr u13 (rmpL t p 50) := by
        rw [hk5] at hown
        exact Ints.of_own (n := 50) hown (by rw [rmpL_len])
      have hd5 : ¬ (k : Int) < 50 := by omega
      clear hown hk5
      go_wp2
      go_ret2
      exact ⟨⟨_, rfl, hP⟩, hB.trans (hbel.mono hB.size)⟩
end Go.Proofs.YtpkaoechbmbolaaGreatDoor

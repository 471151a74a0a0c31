/- Package flow: orders: CheckOrders, asked. -/
import Derived.Test.YtipmjjnhdjcoiaaGvF
namespace Go.Proofs.Ytipmjjnhdjcoiaa
set_option linter.unusedSimpArgs false
set_option linter.unusedVariables false
open Go.RowKit

theorem checkPower0F {n : Int} (h : -1000 ≤ n ∧ n ≤ 1000) (W : World) : Calls Try.prog 27 #[.int .i64 n] W fun r w' => r = .returned (.int .i64 0) ∧ W = w' := by
  have := checkPower_any n W
  rwa [withinG_zero.2 h] at this
set_option maxRecDepth 100000 in
set_option maxHeartbeats 2000000 in
theorem CheckOrdersF_ok (v : Value) (l : List P2) (w : World) (hv : Prs w v l) (hok : OdOk l) : Calls Try.prog 20 #[v] w fun e w' => e = .returned (.int .i64 0) ∧ Below w.heap.size w w' := by
  have HV := Lib.hid hv
  have HK := Lib.hid hok
  have hl := hok.len
  obtain ⟨a, cp, rfl, -⟩ := hv.slice
  obtain ⟨N, hN⟩ : ∃ N, N = l.length := ⟨_, rfl⟩
  rw [← hN] at HV hl ⊢
  have HN := Lib.hid hN
  have d0 : ¬ (32 : Int) < (N : Int) := by omega
  have TF := Lib.hid zero3F
  have TW := Lib.hid (when0F 11)
  clear hN hv hok
  go_enter Try.func20, Try.ntmps20
  go_wp2_with fail
  go_loopw [3, 12] (fun u i wx => ∃ k : Nat, k ≤ N ∧ i = .int .i64 k ∧ u = .int .i64 (prvT l k) ∧ Below w.heap.size w wx) (fun _ i _ => N - (intOf i).toNat)
  case atStart => exact ⟨0, by omega, rfl, rfl, Below.refl _ _⟩
  case round =>
    obtain ⟨k, hk, rfl, rfl, hbel⟩ := hrel
    by_cases hlt : k < N
    · have hdk : (k : Int) < (N : Int) := by omega
      obtain ⟨x, hx⟩ : ∃ x, l[k]? = some x := ⟨_, List.getElem?_eq_getElem (by rw [← HN.out]; exact hlt)⟩
      obtain ⟨b, off, cp', he, hcs⟩ := (HV.out.carry hbel).head (by rw [← HN.out]; omega)
      simp only [Value.slice.injEq] at he
      obtain ⟨rfl, -, rfl⟩ := he
      obtain ⟨c0, c1⟩ := rw2 (hcs k x hx) (show pV x = [.int .i64 x.1, .int .i64 x.2] from rfl)
      obtain ⟨h0, h1⟩ := HK.out.rng k x hx
      have hp := HK.out.prv hx
      have hq := prvT_succ hx
      have T1 := Lib.hid (fun W => within0F h0 W)
      have T2 := Lib.hid (fun W => checkPower0F h1 W)
      obtain ⟨U, hU⟩ : ∃ u, u = prvT l k := ⟨_, rfl⟩
      rw [← hU] at hp ⊢
      have ht : decide (x.1 ≤ U) = false := by simp; omega
      have HQ := Lib.hid hq
      clear hcs hx h0 h1 hp hq hU
      go_upto_region 7 with fail
      obtain ⟨W1, hW1⟩ : ∃ v, v = World.alloc wr (Obj.cells #[.int .i64 x.1, .int .i64 x.2] 34) := ⟨_, rfl⟩
      have kW1 : Below wr.heap.size wr W1 := by rw [hW1]; exact below_new _ _
      have iW1 : Blk W1 (wr.heap.size) 34 [.int .i64 x.1, .int .i64 x.2] := by rw [hW1]; exact Blk.new _ _ _
      have sW1 : W1.heap.size = wr.heap.size + 1 := by rw [hW1]; simp
      rw [← hW1]
      clear hW1
      have a0 := iW1.cell (j := 0) (v := .int .i64 x.1) rfl
      have a1 := iW1.cell (j := 1) (v := .int .i64 x.2) rfl
      have hB := bthen hbel kW1
      have i1 := iW1
      clear iW1 kW1 sW1 c0 c1
      refine wp_region_E 99 (by kernel_rfl) ?_
      obtain ⟨wz, hwz⟩ : ∃ v, v = W1.drew := ⟨_, rfl⟩
      rw [← hwz]
      have hlz : Below W1.heap.size W1 wz := by rw [hwz]; exact (Below.refl _ _).drew
      have hbz := bthen hB hlz
      have a0 := cellb a0 hlz
      have a1 := cellb a1 hlz
      have i1 := i1.carry hlz
      clear hwz hlz
      refine wpAnyE_take (i := 0) (oi := { dst := some 16, op := Op.fieldAddr 34 (Operand.tmp 5) 0, type := 0, pos := "order.go:54", after := #[], guard := none }) (v := ?_) rfl (by kernel_rfl) (by kernel_rfl) (by kernel_rfl) (by kernel_rfl) (fun _ _ _ h => h) (Or.inl ⟨by rfl, ?_⟩) ?_
      rotate_left
      · (intro w hE; (try dsimp only); go_simp); (try with_reducible rfl)
      try simp only [Act.put, List.setIfInBounds_toArray, List.set_cons_zero, List.set_cons_succ]
      refine wpAnyE_take (i := 1) (oi := { dst := some 17, op := Op.load 3 (Operand.tmp 16), type := 3, pos := "order.go:54", after := #[{ on := 0, ground := Ground.data }], guard := none }) (v := ?_) rfl (by kernel_rfl) (by kernel_rfl) (by kernel_rfl) (by kernel_rfl) (fun _ _ _ h => h) (Or.inl ⟨by rfl, ?_⟩) ?_
      rotate_left
      · (intro w hE; have a0 := cellb a0 hE; have a1 := cellb a1 hE; (try dsimp only); go_simp); (try with_reducible rfl)
      try simp only [Act.put, List.setIfInBounds_toArray, List.set_cons_zero, List.set_cons_succ]
      refine wpAnyE_take (i := 3) (oi := { dst := some 19, op := Op.fieldAddr 34 (Operand.tmp 5) 1, type := 0, pos := "order.go:54", after := #[], guard := none }) (v := ?_) rfl (by kernel_rfl) (by kernel_rfl) (by kernel_rfl) (by kernel_rfl) (fun _ _ _ h => h) (Or.inl ⟨by rfl, ?_⟩) ?_
      rotate_left
      · (intro w hE; (try dsimp only); go_simp); (try with_reducible rfl)
      try simp only [Act.put, List.setIfInBounds_toArray, List.set_cons_zero, List.set_cons_succ]
      refine wpAnyE_take (i := 4) (oi := { dst := some 20, op := Op.load 3 (Operand.tmp 19), type := 3, pos := "order.go:54", after := #[{ on := 3, ground := Ground.data }], guard := none }) (v := ?_) rfl (by kernel_rfl) (by kernel_rfl) (by kernel_rfl) (by kernel_rfl) (fun _ _ _ h => h) (Or.inl ⟨by rfl, ?_⟩) ?_
      rotate_left
      · (intro w hE; have a0 := cellb a0 hE; have a1 := cellb a1 hE; (try dsimp only); go_simp); (try with_reducible rfl)
      try simp only [Act.put, List.setIfInBounds_toArray, List.set_cons_zero, List.set_cons_succ]
      refine wpAnyE_take (i := 6) (oi := { dst := some 22, op := Op.fieldAddr 34 (Operand.tmp 5) 0, type := 0, pos := "order.go:54", after := #[], guard := none }) (v := ?_) rfl (by kernel_rfl) (by kernel_rfl) (by kernel_rfl) (by kernel_rfl) (fun _ _ _ h => h) (Or.inl ⟨by rfl, ?_⟩) ?_
      rotate_left
      · (intro w hE; (try dsimp only); go_simp); (try with_reducible rfl)
      try simp only [Act.put, List.setIfInBounds_toArray, List.set_cons_zero, List.set_cons_succ]
      refine wpAnyE_take (i := 7) (oi := { dst := some 23, op := Op.load 3 (Operand.tmp 22), type := 3, pos := "order.go:54", after := #[{ on := 6, ground := Ground.data }], guard := none }) (v := ?_) rfl (by kernel_rfl) (by kernel_rfl) (by kernel_rfl) (by kernel_rfl) (fun _ _ _ h => h) (Or.inl ⟨by rfl, ?_⟩) ?_
      rotate_left
      · (intro w hE; have a0 := cellb a0 hE; have a1 := cellb a1 hE; (try dsimp only); go_simp); (try with_reducible rfl)
      try simp only [Act.put, List.setIfInBounds_toArray, List.set_cons_zero, List.set_cons_succ]
      refine wpAnyE_take (i := 8) (oi := { dst := some 24, op := Op.move (Operand.tmp 3), type := 3, pos := "order.go:54", after := #[], guard := none }) (v := ?_) rfl (by kernel_rfl) (by kernel_rfl) (by kernel_rfl) (by kernel_rfl) (fun _ _ _ h => h) (Or.inl ⟨by rfl, ?_⟩) ?_
      rotate_left
      · (intro w hE; (try dsimp only); go_simp); (try with_reducible rfl)
      try simp only [Act.put, List.setIfInBounds_toArray, List.set_cons_zero, List.set_cons_succ]
      refine wpAnyE_take (i := 9) (oi := { dst := some 25, op := Op.binOp BinOp.leq 3 (Operand.tmp 23) (Operand.tmp 24) 3, type := 4, pos := "order.go:54", after := #[{ on := 7, ground := Ground.data }, { on := 8, ground := Ground.data }], guard := none }) (v := ?_) rfl (by kernel_rfl) (by kernel_rfl) (by kernel_rfl) (by kernel_rfl) (fun _ _ _ h => h) (Or.inl ⟨by rfl, ?_⟩) ?_
      rotate_left
      · (intro w hE; (try dsimp only); go_simp); (try with_reducible rfl)
      try simp only [Act.put, List.setIfInBounds_toArray, List.set_cons_zero, List.set_cons_succ]
      refine wpAnyE_call (i := 2) (oi := { dst := some 18, op := Op.call { callee := Callee.value (Operand.func 30), args := #[Operand.tmp 17, Operand.const (Value.int IntKind.i64 0), Operand.const (Value.int IntKind.i64 100000)], argTypes := #[3, 3, 3] }, type := 36, pos := "order.go:54", after := #[{ on := 1, ground := Ground.data }], guard := none }) (fun w hE => ofPure (T1.out w)) rfl (by kernel_rfl) (by kernel_rfl) (by kernel_rfl) (by kernel_rfl) (fun _ _ _ h => h) (by rfl) (fun w hE => by (try dsimp only); go_simp) ?_
      try simp only [Act.put, List.setIfInBounds_toArray, List.set_cons_zero, List.set_cons_succ]
      refine wpAnyE_call (i := 5) (oi := { dst := some 21, op := Op.call { callee := Callee.value (Operand.func 27), args := #[Operand.tmp 20], argTypes := #[3] }, type := 36, pos := "order.go:54", after := #[{ on := 4, ground := Ground.data }, { on := 2, ground := Ground.chain }], guard := none }) (fun w hE => ofPure (T2.out w)) rfl (by kernel_rfl) (by kernel_rfl) (by kernel_rfl) (by kernel_rfl) (fun _ _ _ h => h) (by rfl) (fun w hE => by (try dsimp only); go_simp) ?_
      try simp only [Act.put, List.setIfInBounds_toArray, List.set_cons_zero, List.set_cons_succ]
      refine wpAnyE_call (i := 10) (oi := { dst := some 26, op := Op.call { callee := Callee.value (Operand.func 28), args := #[Operand.tmp 25, Operand.const (Value.int IntKind.i64 11)], argTypes := #[4, 36] }, type := 36, pos := "order.go:54", after := #[{ on := 9, ground := Ground.data }, { on := 5, ground := Ground.chain }], guard := none }) (fun w hE => ofPure (TW.out w)) rfl (by kernel_rfl) (by kernel_rfl) (by kernel_rfl) (by kernel_rfl) (fun _ _ _ h => h) (by rfl) (fun w hE => by (try dsimp only); go_simp) ?_
      try simp only [Act.put, List.setIfInBounds_toArray, List.set_cons_zero, List.set_cons_succ]
      refine wpAnyE_one (i := 11) (o := { dst := some 27, op := Op.buildSlice 82 3 #[(0, Operand.tmp 18), (1, Operand.tmp 21), (2, Operand.tmp 26)], type := 82, pos := "order.go:54", after := #[{ on := 2, ground := Ground.data }, { on := 5, ground := Ground.data }, { on := 10, ground := Ground.data }], guard := none }) (by kernel_rfl) rfl (fun wy1 hE K hK => ?_)
      have a0 := cellb a0 hE
      have a1 := cellb a1 hE
      have i1 := i1.carry hE
      have hbz1 := bthen hbz hE
      clear hE
      go_simp
      obtain ⟨wx1, hwz⟩ : ∃ v, v = wy1.alloc (Obj.cells #[.int .i64 0, .int .i64 0, .int .i64 0] 36) := ⟨_, rfl⟩
      rw [← hwz]
      have hl : Below wy1.heap.size wy1 wx1 := by rw [hwz]; exact below_new _ _
      have hcz1 := bthen hbz1 hl
      have iN : BlkI wx1 wy1.heap.size 36 [0, 0, 0] := by rw [hwz]; exact Blk.new _ _ _
      generalize wy1.heap.size = G at iN ⊢
      have a0 := cellb a0 hl
      have a1 := cellb a1 hl
      have i1 := i1.carry hl
      clear hwz
      refine hK _ _ (fun _ => hl) ?_
      clear hK K hl
      try simp only [Act.put, List.setIfInBounds_toArray, List.set_cons_zero, List.set_cons_succ]
      refine wpAnyE_call (i := 12) (oi := { dst := some 28, op := Op.call { callee := Callee.value (Operand.func 19), args := #[Operand.tmp 27], argTypes := #[82] }, type := 36, pos := "order.go:54", after := #[{ on := 11, ground := Ground.data }, { on := 10, ground := Ground.chain }], guard := none }) (fun w hE => ofPure (TF.out _ w ((BlkI.ints iN rfl).carry hE))) rfl (by kernel_rfl) (by kernel_rfl) (by kernel_rfl) (by kernel_rfl) (fun _ _ _ h => h) (by rfl) (fun w hE => by (try dsimp only); go_simp) ?_
      try simp only [Act.put, List.setIfInBounds_toArray, List.set_cons_zero, List.set_cons_succ]
      refine wpAnyE_take (i := 13) (oi := { dst := some 6, op := Op.assign (Operand.tmp 28), type := 36, pos := "order.go:54", after := #[{ on := 12, ground := Ground.data }, { on := 12, ground := Ground.chain }, { on := 0, ground := Ground.phase }, { on := 1, ground := Ground.phase }, { on := 2, ground := Ground.phase }, { on := 3, ground := Ground.phase }, { on := 4, ground := Ground.phase }, { on := 5, ground := Ground.phase }, { on := 6, ground := Ground.phase }, { on := 7, ground := Ground.phase }, { on := 8, ground := Ground.phase }, { on := 9, ground := Ground.phase }, { on := 10, ground := Ground.phase }, { on := 11, ground := Ground.phase }, { on := 12, ground := Ground.phase }], guard := none }) (v := ?_) rfl (by kernel_rfl) (by kernel_rfl) (by kernel_rfl) (by kernel_rfl) (fun _ _ _ h => h) (Or.inl ⟨by rfl, ?_⟩) ?_
      rotate_left
      · (intro w hE; (try dsimp only); go_simp); (try with_reducible rfl)
      try simp only [Act.put, List.setIfInBounds_toArray, List.set_cons_zero, List.set_cons_succ]
      refine wpAnyE_done (by kernel_rfl) (fun wy2 hE => ?_) _
      have hbz2 := bthen hcz1 hE
      have a0 := cellb a0 hE
      have a1 := cellb a1 hE
      have i1 := i1.carry hE
      clear hE
      have hB := hbz2
      obtain ⟨W9, hW9⟩ : ∃ v, v = wy2 := ⟨_, rfl⟩
      rw [← hW9] at hB i1 ⊢
      clear hW9 a0 a1
      have a0 := i1.cell (j := 0) (v := .int .i64 x.1) rfl
      go_wp2_with fail
      go_roundw
      case rel => exact ⟨k + 1, by omega, by go_num, by rw [HQ.out], hB⟩
      case measure => simp [intOf]; omega
    · obtain rfl : k = N := by omega
      have hdk : ¬ (k : Int) < (k : Int) := by omega
      go_wp2
      go_ret
      exact ⟨rfl, hbel⟩
set_option maxRecDepth 100000 in
set_option maxHeartbeats 2000000 in
theorem asked_any (v : Value) (l : List P2) (t : Int) (w : World) (hl : l.length ≤ 1000000) (hv : Prs w v l) :
    Calls Try.prog 22 #[v, .int .i64 t] w fun r w' => r = .returned (.int .i64 (askL l t)) ∧ Below w.heap.size w w' := by
  have HV := Lib.hid hv
  obtain ⟨a, cp, rfl, -⟩ := hv.slice
  obtain ⟨N, hN⟩ : ∃ N, N = l.length := ⟨_, rfl⟩
  rw [← hN] at HV hl ⊢
  have HN := Lib.hid hN
  clear hN hv
  go_enter Try.func22, Try.ntmps22
  go_wp2_with fail
  go_loopw [5, 10] (fun s i wr => ∃ k : Nat, k ≤ N ∧ i = .int .i64 k ∧ s = .int .i64 (askL (l.take k) t) ∧ Below w.heap.size w wr) (fun _ i _ => N - (intOf i).toNat)
  case atStart => exact ⟨0, by omega, rfl, rfl, Below.refl _ _⟩
  case round =>
    obtain ⟨k, hk, rfl, rfl, hbel⟩ := hrel
    by_cases hlt : k < N
    · have hdk : (k : Int) < (N : Int) := by omega
      obtain ⟨x, hx⟩ : ∃ x, l[k]? = some x := ⟨_, List.getElem?_eq_getElem (by rw [← HN.out]; exact hlt)⟩
      obtain ⟨b, off, cp', he, hcs⟩ := (HV.out.carry hbel).head (by rw [← HN.out]; omega)
      simp only [Value.slice.injEq] at he
      obtain ⟨rfl, -, rfl⟩ := he
      obtain ⟨c0, c1⟩ := rw2 (hcs k x hx) (show pV x = [.int .i64 x.1, .int .i64 x.2] from rfl)
      have hs := askL_take l t hx
      obtain ⟨A, hA⟩ : ∃ a, a = askL (l.take k) t := ⟨_, rfl⟩
      rw [← hA] at hs ⊢
      clear hcs hx hA
      go_upto_region 5 with fail
      obtain ⟨W1, hW1⟩ : ∃ v, v = World.alloc wr (Obj.cells #[.int .i64 x.1, .int .i64 x.2] 34) := ⟨_, rfl⟩
      have kW1 : Below wr.heap.size wr W1 := by rw [hW1]; exact below_new _ _
      have iW1 : Blk W1 (wr.heap.size) 34 [.int .i64 x.1, .int .i64 x.2] := by rw [hW1]; exact Blk.new _ _ _
      have sW1 : W1.heap.size = wr.heap.size + 1 := by rw [hW1]; simp
      rw [← hW1]
      clear hW1
      have a0 := iW1.cell (j := 0) (v := .int .i64 x.1) rfl
      have a1 := iW1.cell (j := 1) (v := .int .i64 x.2) rfl
      have hB := bthen hbel kW1
      clear iW1 kW1 sW1 c0 c1 hbel
      by_cases hc : x.1 ≤ t
      · rw [if_pos hc] at hs
        have HS := Lib.hid hs
        clear hs
        go_wp2
        go_roundw
        case rel => exact ⟨k + 1, by omega, by go_num, by rw [HS.out], hB⟩
        case measure => simp [intOf]; omega
      · rw [if_neg hc] at hs
        have HS := Lib.hid hs
        clear hs
        go_wp2
        go_roundw
        case rel => exact ⟨k + 1, by omega, by go_num, by rw [HS.out], hB⟩
        case measure => simp [intOf]; omega
    · obtain rfl : k = N := by omega
      have hdk : ¬ (k : Int) < (k : Int) := by omega
      have e : l.take k = l := by rw [HN.out, List.take_length]
      rw [e]
      go_wp2
      go_ret
      exact ⟨rfl, hbel⟩
theorem Try.enterMrg1 (args : Array Value) (w : World) : Sem.run Try.prog (callFunc 26 args) w = .ok (.enter 26 args) w :=
  MuLone.run_callFunc_enter Try.func26 (by kernel_rfl) rfl args w
theorem Merged1_any (x y : Int) (w : World) : Calls Try.prog 26 #[.agg #[.int .i64 x, .int .i64 y]] w fun r w' => r = .returned (.bool (withinE y (-1000) 1000 != 0)) ∧ Below w.heap.size w w' := by
  have T := Lib.hid (fun W => checkPower_any y W)
  obtain ⟨E, hE⟩ : ∃ e, e = withinE y (-1000) 1000 := ⟨_, rfl⟩
  rw [← hE] at T ⊢
  clear hE
  go_enter Try.func26, Try.ntmps26
  go_upto_region 1 with fail
  obtain ⟨W1, hW1⟩ : ∃ v, v = World.alloc w (Obj.cells #[.int .i64 x, .int .i64 y] 34) := ⟨_, rfl⟩
  have kW1 : Below w.heap.size w W1 := by rw [hW1]; exact below_new _ _
  have iW1 : Blk W1 (w.heap.size) 34 [.int .i64 x, .int .i64 y] := by rw [hW1]; exact Blk.new _ _ _
  have sW1 : W1.heap.size = w.heap.size + 1 := by rw [hW1]; simp
  rw [← hW1]
  clear hW1
  have a1 := iW1.cell (j := 1) (v := .int .i64 y) rfl
  have hB := kW1
  clear iW1 kW1 sW1
  go_wp2_with fail
  refine (T.out _).mono ?_
  rintro e w2 ⟨rfl, rfl⟩
  go_wp2
  go_ret
  exact ⟨rfl, hB⟩
end Go.Proofs.Ytipmjjnhdjcoiaa

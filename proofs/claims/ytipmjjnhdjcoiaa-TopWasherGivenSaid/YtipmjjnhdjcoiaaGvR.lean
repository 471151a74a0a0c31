/- The reference of chapter 5: CheckLosses, CheckOrders, CheckPowers, Asked. -/
import Derived.Test.YtipmjjnhdjcoiaaGvP
namespace Go.Proofs.Ytipmjjnhdjcoiaa
set_option linter.unusedSimpArgs false
set_option linter.unusedVariables false
open Go.RowKit

set_option maxHeartbeats 400000 in
theorem WhenR_any (c : Bool) (e : Int) (w : World) :
    Calls Try.prog 43 #[.bool c, .int .i64 e] w fun r w' => r = .returned (.int .i64 (whenE c e)) ∧ w = w' := by
  cases c
  · go_enter Try.func43, Try.ntmps43
    go_wp2
    go_ret
    exact ⟨rfl, rfl⟩
  · go_enter Try.func43, Try.ntmps43
    go_wp2
    go_ret
    exact ⟨rfl, rfl⟩
set_option maxHeartbeats 400000 in
theorem CheckRange_any (n lo hi : Int) (w : World) :
    Calls Try.prog 16 #[.int .i64 n, .int .i64 lo, .int .i64 hi] w fun r w' => r = .returned (.int .i64 (withinE n lo hi)) ∧ w = w' := by
  by_cases h1 : n < lo
  · go_enter Try.func16, Try.ntmps16
    go_wp2_with fail
    refine (WhenR_any _ _ _).mono ?_
    rintro e w' ⟨rfl, rfl⟩
    go_wp2
    go_ret
    exact ⟨by simp [whenE, withinE, h1], rfl⟩
  · by_cases h2 : hi < n
    all_goals
      go_enter Try.func16, Try.ntmps16
      go_wp2_with fail
      refine (WhenR_any _ _ _).mono ?_
      rintro e w' ⟨rfl, rfl⟩
      go_wp2
      go_ret
      exact ⟨by simp [whenE, withinE, h1, h2], rfl⟩
set_option maxHeartbeats 400000 in
theorem FirstR_any (v : Value) (l : List Int) (w : World) (hl : l.length ≤ 1000000000) (hv : Ints w v l) :
    Calls Try.prog 15 #[v] w fun r w' => r = .returned (.int .i64 (firstE l)) ∧ w = w' := by
  obtain ⟨a, cap, rfl, hc, hv⟩ := hv
  rcases Nat.eq_zero_or_pos l.length with h0 | h0
  · obtain rfl : l = [] := List.length_eq_zero_iff.1 h0
    go_enter Try.func15, Try.ntmps15
    go_wp2
    go_loop [3] (fun i => i = .int .i64 0) (fun _ => 0)
    case atStart => rfl
    case round =>
      obtain rfl := hrel
      go_wp2
      go_ret
      exact ⟨rfl, rfl⟩
  · obtain ⟨b, off, rfl, hcs⟩ := hv h0
    clear hv
    go_enter Try.func15, Try.ntmps15
    go_wp2
    go_loop [3] (fun i => ∃ k : Nat, k ≤ l.length ∧ i = .int .i64 k ∧ firstE (l.take k) = 0) (fun i => l.length - (intOf i).toNat)
    case atStart => exact ⟨0, by omega, rfl, rfl⟩
    case round =>
      obtain ⟨k, hk, rfl, hf⟩ := hrel
      by_cases hlt : k < l.length
      · have hcell := hcs k hlt
        have hs := firstE_take_succ l k hlt hf
        clear hcs
        generalize l[k]?.getD 0 = x at hcell hs
        have HS := Lib.hid hs
        clear hs hf
        by_cases hz : x = 0
        · subst hz
          go_wp2
          go_round
          case rel => exact ⟨k + 1, by omega, by go_num, HS.out⟩
          case measure => simp [intOf]; omega
        · go_wp2
          go_ret
          exact ⟨ret_int (by rw [firstE_of_take l (k+1) (by rw [HS.out]; exact hz), HS.out]), rfl⟩
      · have HF := Lib.hid hf
        clear hf
        go_wp2
        go_ret
        have h := HF.out
        rw [List.take_of_length_le (by omega)] at h
        exact ⟨ret_int h.symm, rfl⟩

theorem firstB2 (e0 e1 : Int) (G : Nat) (W : World) (h : BlkI W G 3 [e0, e1]) : Calls Try.prog 15 #[.slice (some ⟨G, 0, none⟩) 2 2] W fun r w' => r = .returned (.int .i64 (firstE [e0, e1])) ∧ W = w' :=
  FirstR_any _ _ W (by simp) (BlkI.ints h rfl)
theorem firstB3 (e0 e1 e2 : Int) (G : Nat) (W : World) (h : BlkI W G 3 [e0, e1, e2]) : Calls Try.prog 15 #[.slice (some ⟨G, 0, none⟩) 3 3] W fun r w' => r = .returned (.int .i64 (firstE [e0, e1, e2])) ∧ W = w' :=
  FirstR_any _ _ W (by simp) (BlkI.ints h rfl)
set_option maxRecDepth 100000 in
set_option maxHeartbeats 1000000 in
theorem CheckLossesR_any (a b c : Int) (w : World) : Calls Try.prog 4 #[.agg #[.int .i64 a, .int .i64 b, .int .i64 c]] w fun r w' => r = .returned (.int .i64 (losE a b c)) ∧ Below w.heap.size w w' := by
  have T0 := Lib.hid (fun W => CheckRange_any a 0 1000 W)
  have T1 := Lib.hid (fun W => CheckRange_any b 0 1000 W)
  have T2 := Lib.hid (fun W => CheckRange_any c 0 1000 W)
  unfold losE
  obtain ⟨e0, he0⟩ : ∃ e, e = withinE a 0 1000 := ⟨_, rfl⟩
  obtain ⟨e1, he1⟩ : ∃ e, e = withinE b 0 1000 := ⟨_, rfl⟩
  obtain ⟨e2, he2⟩ : ∃ e, e = withinE c 0 1000 := ⟨_, rfl⟩
  rw [← he0] at T0 ⊢
  rw [← he1] at T1 ⊢
  rw [← he2] at T2 ⊢
  have TF := Lib.hid (fun G W h => firstB3 e0 e1 e2 G W h)
  obtain ⟨R, hR⟩ : ∃ r, r = firstE [e0, e1, e2] := ⟨_, rfl⟩
  rw [← hR] at TF ⊢
  clear he0 he1 he2 hR
  go_enter Try.func4, Try.ntmps4
  go_upto_region 1 with fail
  obtain ⟨W1, hW1⟩ : ∃ v, v = World.alloc w (Obj.cells #[.int .i64 a, .int .i64 b, .int .i64 c] 23) := ⟨_, rfl⟩
  have kW1 : Below w.heap.size w W1 := by rw [hW1]; exact below_new _ _
  have iW1 : Blk W1 (w.heap.size) 23 [.int .i64 a, .int .i64 b, .int .i64 c] := by rw [hW1]; exact Blk.new _ _ _
  have sW1 : W1.heap.size = w.heap.size + 1 := by rw [hW1]; simp
  rw [← hW1]
  clear hW1
  have c0 := iW1.cell (j := 0) (v := .int .i64 a) rfl
  have c1 := iW1.cell (j := 1) (v := .int .i64 b) rfl
  have c2 := iW1.cell (j := 2) (v := .int .i64 c) rfl
  have hB := kW1
  clear iW1 kW1 sW1
  refine wp_region_E 99 (by kernel_rfl) ?_
  obtain ⟨wz, hwz⟩ : ∃ v, v = W1.drew := ⟨_, rfl⟩
  rw [← hwz]
  have hlz : Below W1.heap.size W1 wz := by rw [hwz]; exact (Below.refl _ _).drew
  have hbz := bthen hB hlz
  have c0 := cellb c0 hlz
  have c1 := cellb c1 hlz
  have c2 := cellb c2 hlz
  clear hwz hlz
  refine wpAnyE_take (i := 0) (oi := { dst := some 3, op := Op.fieldAddr 23 (Operand.tmp 1) 0, type := 0, pos := "ref.go:238", after := #[], guard := none }) (v := ?_) rfl (by kernel_rfl) (by kernel_rfl) (by kernel_rfl) (by kernel_rfl) (fun _ _ _ h => h) (Or.inl ⟨by rfl, ?_⟩) ?_
  rotate_left
  · (intro w hE; (try dsimp only); go_simp); (try with_reducible rfl)
  try simp only [Act.put, List.setIfInBounds_toArray, List.set_cons_zero, List.set_cons_succ]
  refine wpAnyE_take (i := 1) (oi := { dst := some 4, op := Op.load 3 (Operand.tmp 3), type := 3, pos := "ref.go:238", after := #[{ on := 0, ground := Ground.data }], guard := none }) (v := ?_) rfl (by kernel_rfl) (by kernel_rfl) (by kernel_rfl) (by kernel_rfl) (fun _ _ _ h => h) (Or.inl ⟨by rfl, ?_⟩) ?_
  rotate_left
  · (intro w hE; have c0 := cellb c0 hE; have c1 := cellb c1 hE; have c2 := cellb c2 hE; (try dsimp only); go_simp); (try with_reducible rfl)
  try simp only [Act.put, List.setIfInBounds_toArray, List.set_cons_zero, List.set_cons_succ]
  refine wpAnyE_take (i := 3) (oi := { dst := some 6, op := Op.fieldAddr 23 (Operand.tmp 1) 1, type := 0, pos := "ref.go:238", after := #[], guard := none }) (v := ?_) rfl (by kernel_rfl) (by kernel_rfl) (by kernel_rfl) (by kernel_rfl) (fun _ _ _ h => h) (Or.inl ⟨by rfl, ?_⟩) ?_
  rotate_left
  · (intro w hE; (try dsimp only); go_simp); (try with_reducible rfl)
  try simp only [Act.put, List.setIfInBounds_toArray, List.set_cons_zero, List.set_cons_succ]
  refine wpAnyE_take (i := 4) (oi := { dst := some 7, op := Op.load 3 (Operand.tmp 6), type := 3, pos := "ref.go:238", after := #[{ on := 3, ground := Ground.data }], guard := none }) (v := ?_) rfl (by kernel_rfl) (by kernel_rfl) (by kernel_rfl) (by kernel_rfl) (fun _ _ _ h => h) (Or.inl ⟨by rfl, ?_⟩) ?_
  rotate_left
  · (intro w hE; have c0 := cellb c0 hE; have c1 := cellb c1 hE; have c2 := cellb c2 hE; (try dsimp only); go_simp); (try with_reducible rfl)
  try simp only [Act.put, List.setIfInBounds_toArray, List.set_cons_zero, List.set_cons_succ]
  refine wpAnyE_take (i := 6) (oi := { dst := some 9, op := Op.fieldAddr 23 (Operand.tmp 1) 2, type := 0, pos := "ref.go:238", after := #[], guard := none }) (v := ?_) rfl (by kernel_rfl) (by kernel_rfl) (by kernel_rfl) (by kernel_rfl) (fun _ _ _ h => h) (Or.inl ⟨by rfl, ?_⟩) ?_
  rotate_left
  · (intro w hE; (try dsimp only); go_simp); (try with_reducible rfl)
  try simp only [Act.put, List.setIfInBounds_toArray, List.set_cons_zero, List.set_cons_succ]
  refine wpAnyE_take (i := 7) (oi := { dst := some 10, op := Op.load 3 (Operand.tmp 9), type := 3, pos := "ref.go:238", after := #[{ on := 6, ground := Ground.data }], guard := none }) (v := ?_) rfl (by kernel_rfl) (by kernel_rfl) (by kernel_rfl) (by kernel_rfl) (fun _ _ _ h => h) (Or.inl ⟨by rfl, ?_⟩) ?_
  rotate_left
  · (intro w hE; have c0 := cellb c0 hE; have c1 := cellb c1 hE; have c2 := cellb c2 hE; (try dsimp only); go_simp); (try with_reducible rfl)
  try simp only [Act.put, List.setIfInBounds_toArray, List.set_cons_zero, List.set_cons_succ]
  refine wpAnyE_call (i := 2) (oi := { dst := some 5, op := Op.call { callee := Callee.value (Operand.func 16), args := #[Operand.tmp 4, Operand.const (Value.int IntKind.i64 0), Operand.const (Value.int IntKind.i64 1000)], argTypes := #[3, 3, 3] }, type := 3, pos := "ref.go:238", after := #[{ on := 1, ground := Ground.data }], guard := none }) (fun w hE => ofPure (T0.out w)) rfl (by kernel_rfl) (by kernel_rfl) (by kernel_rfl) (by kernel_rfl) (fun _ _ _ h => h) (by rfl) (fun w hE => by (try dsimp only); go_simp) ?_
  try simp only [Act.put, List.setIfInBounds_toArray, List.set_cons_zero, List.set_cons_succ]
  refine wpAnyE_call (i := 5) (oi := { dst := some 8, op := Op.call { callee := Callee.value (Operand.func 16), args := #[Operand.tmp 7, Operand.const (Value.int IntKind.i64 0), Operand.const (Value.int IntKind.i64 1000)], argTypes := #[3, 3, 3] }, type := 3, pos := "ref.go:238", after := #[{ on := 4, ground := Ground.data }, { on := 2, ground := Ground.chain }], guard := none }) (fun w hE => ofPure (T1.out w)) rfl (by kernel_rfl) (by kernel_rfl) (by kernel_rfl) (by kernel_rfl) (fun _ _ _ h => h) (by rfl) (fun w hE => by (try dsimp only); go_simp) ?_
  try simp only [Act.put, List.setIfInBounds_toArray, List.set_cons_zero, List.set_cons_succ]
  refine wpAnyE_call (i := 8) (oi := { dst := some 11, op := Op.call { callee := Callee.value (Operand.func 16), args := #[Operand.tmp 10, Operand.const (Value.int IntKind.i64 0), Operand.const (Value.int IntKind.i64 1000)], argTypes := #[3, 3, 3] }, type := 3, pos := "ref.go:238", after := #[{ on := 7, ground := Ground.data }, { on := 5, ground := Ground.chain }], guard := none }) (fun w hE => ofPure (T2.out w)) rfl (by kernel_rfl) (by kernel_rfl) (by kernel_rfl) (by kernel_rfl) (fun _ _ _ h => h) (by rfl) (fun w hE => by (try dsimp only); go_simp) ?_
  try simp only [Act.put, List.setIfInBounds_toArray, List.set_cons_zero, List.set_cons_succ]
  refine wpAnyE_one (i := 9) (o := { dst := some 12, op := Op.buildSlice 26 3 #[(0, Operand.tmp 5), (1, Operand.tmp 8), (2, Operand.tmp 11)], type := 26, pos := "ref.go:238", after := #[{ on := 2, ground := Ground.data }, { on := 5, ground := Ground.data }, { on := 8, ground := Ground.data }], guard := none }) (by kernel_rfl) rfl (fun wy1 hE K hK => ?_)
  have c0 := cellb c0 hE
  have c1 := cellb c1 hE
  have c2 := cellb c2 hE
  have hbz1 := bthen hbz hE
  clear hE
  go_simp
  obtain ⟨wx1, hwz⟩ : ∃ v, v = wy1.alloc (Obj.cells #[.int .i64 e0, .int .i64 e1, .int .i64 e2] 3) := ⟨_, rfl⟩
  rw [← hwz]
  have hl : Below wy1.heap.size wy1 wx1 := by rw [hwz]; exact below_new _ _
  have hcz1 := bthen hbz1 hl
  have iN : BlkI wx1 wy1.heap.size 3 [e0, e1, e2] := by rw [hwz]; exact Blk.new _ _ _
  generalize wy1.heap.size = G at iN ⊢
  have c0 := cellb c0 hl
  have c1 := cellb c1 hl
  have c2 := cellb c2 hl
  clear hwz
  refine hK _ _ (fun _ => hl) ?_
  clear hK K hl
  try simp only [Act.put, List.setIfInBounds_toArray, List.set_cons_zero, List.set_cons_succ]
  refine wpAnyE_call (i := 10) (oi := { dst := some 13, op := Op.call { callee := Callee.value (Operand.func 15), args := #[Operand.tmp 12], argTypes := #[26] }, type := 3, pos := "ref.go:238", after := #[{ on := 9, ground := Ground.data }, { on := 8, ground := Ground.chain }], guard := none }) (fun w hE => ofPure (TF.out _ w (Blk.carry iN hE))) rfl (by kernel_rfl) (by kernel_rfl) (by kernel_rfl) (by kernel_rfl) (fun _ _ _ h => h) (by rfl) (fun w hE => by (try dsimp only); go_simp) ?_
  try simp only [Act.put, List.setIfInBounds_toArray, List.set_cons_zero, List.set_cons_succ]
  refine wpAnyE_take (i := 11) (oi := { dst := some 2, op := Op.assign (Operand.tmp 13), type := 3, pos := "ref.go:238", after := #[{ on := 10, ground := Ground.data }, { on := 10, ground := Ground.chain }, { on := 0, ground := Ground.phase }, { on := 1, ground := Ground.phase }, { on := 2, ground := Ground.phase }, { on := 3, ground := Ground.phase }, { on := 4, ground := Ground.phase }, { on := 5, ground := Ground.phase }, { on := 6, ground := Ground.phase }, { on := 7, ground := Ground.phase }, { on := 8, ground := Ground.phase }, { on := 9, ground := Ground.phase }, { on := 10, ground := Ground.phase }], guard := none }) (v := ?_) rfl (by kernel_rfl) (by kernel_rfl) (by kernel_rfl) (by kernel_rfl) (fun _ _ _ h => h) (Or.inl ⟨by rfl, ?_⟩) ?_
  rotate_left
  · (intro w hE; (try dsimp only); go_simp); (try with_reducible rfl)
  try simp only [Act.put, List.setIfInBounds_toArray, List.set_cons_zero, List.set_cons_succ]
  refine wpAnyE_done (by kernel_rfl) (fun wy2 hE => ?_) _
  have hbz2 := bthen hcz1 hE
  have c0 := cellb c0 hE
  have c1 := cellb c1 hE
  have c2 := cellb c2 hE
  have iN := iN.carry hE
  clear hE
  have hB := hbz2
  obtain ⟨W9, hW9⟩ : ∃ v, v = wy2 := ⟨_, rfl⟩
  rw [← hW9] at hB ⊢
  clear hW9 iN
  go_wp2
  go_ret
  exact ⟨rfl, hB⟩
theorem firstE2_zero {a b : Int} : firstE [a, b] = 0 ↔ a = 0 ∧ b = 0 := by
  by_cases h : a = 0
  · by_cases h2 : b = 0 <;> simp [firstE, h, h2]
  · simp [firstE, h]
set_option maxRecDepth 100000 in
set_option maxHeartbeats 4000000 in
theorem CheckOrdersR_any (v : Value) (l : List P2) (w : World) (hl : l.length ≤ 1000000) (hv : Prs w v l) :
    Calls Try.prog 5 #[v] w fun r w' => (∃ e, r = .returned (.int .i64 e) ∧ (e = 0 ↔ OdOk l)) ∧ Below w.heap.size w w' := by
  have HV := Lib.hid hv
  obtain ⟨a, cp, rfl, -⟩ := hv.slice
  obtain ⟨N, hN⟩ : ∃ N, N = l.length := ⟨_, rfl⟩
  rw [← hN] at HV hl ⊢
  have HN := Lib.hid hN
  by_cases hbig : 32 < N
  · have he : (5 : Int) = 0 ↔ OdOk l := ⟨fun h => by omega, fun h => by have := h.len; omega⟩
    have d1 : (32 : Int) < (N : Int) := by omega
    have HE := Lib.hid he
    clear he hN hbig hv
    go_enter Try.func5, Try.ntmps5
    go_wp2
    go_ret
    exact ⟨⟨_, rfl, HE.out⟩, Below.refl _ _⟩
  · have d1 : ¬ (32 : Int) < (N : Int) := by omega
    clear hN hv
    go_enter Try.func5, Try.ntmps5
    go_wp2_with fail
    go_loopw [3] (fun i wr => ∃ k : Nat, k ≤ N ∧ i = .int .i64 k ∧ OdK l k ∧ Below w.heap.size w wr) (fun i _ => N - (intOf i).toNat)
    case atStart => exact ⟨0, by omega, rfl, OdK.zero l, Below.refl _ _⟩
    case round =>
      obtain ⟨k, hk, rfl, hf, hbel⟩ := hrel
      have HF := Lib.hid hf
      clear hf
      by_cases hlt : k < N
      · have hdk : (k : Int) < (N : Int) := by omega
        obtain ⟨x, hx⟩ : ∃ x, l[k]? = some x := ⟨_, List.getElem?_eq_getElem (by rw [← HN.out]; exact hlt)⟩
        obtain ⟨b, off, cp', he, hcs⟩ := (HV.out.carry hbel).head (by rw [← HN.out]; omega)
        simp only [Value.slice.injEq] at he
        obtain ⟨rfl, -, rfl⟩ := he
        obtain ⟨c0, c1⟩ := rw2 (hcs k x hx) (show pV x = [.int .i64 x.1, .int .i64 x.2] from rfl)
        have HX := Lib.hid hx
        have T0 := Lib.hid (fun W => CheckRange_any x.1 0 100000 W)
        have T1 := Lib.hid (fun W => CheckRange_any x.2 (-1000) 1000 W)
        obtain ⟨e0, he0⟩ : ∃ e, e = withinE x.1 0 100000 := ⟨_, rfl⟩
        obtain ⟨e1, he1⟩ : ∃ e, e = withinE x.2 (-1000) 1000 := ⟨_, rfl⟩
        rw [← he0] at T0
        rw [← he1] at T1
        have TF := Lib.hid (fun G W h => firstB2 e0 e1 G W h)
        have hgx : firstE [e0, e1] = 0 ↔ ((0 ≤ x.1 ∧ x.1 ≤ 100000) ∧ (-1000 ≤ x.2 ∧ x.2 ≤ 1000)) := by rw [firstE2_zero, he0, he1, withinG_zero, withinG_zero]
        obtain ⟨R, hR⟩ : ∃ r, r = firstE [e0, e1] := ⟨_, rfl⟩
        rw [← hR] at TF hgx
        have HG := Lib.hid hgx
        clear hcs hx he0 he1 hgx hR
        go_upto_region 6 with fail
        refine wp_region_E 99 (by kernel_rfl) ?_
        obtain ⟨wz, hwz⟩ : ∃ v, v = wr.drew := ⟨_, rfl⟩
        rw [← hwz]
        have hlz : Below wr.heap.size wr wz := by rw [hwz]; exact (Below.refl _ _).drew
        have hbz := bthen hbel hlz
        have c0 := cellb c0 hlz
        have c1 := cellb c1 hlz
        clear hwz hlz
        refine wpAnyE_take (i := 0) (oi := { dst := some 14, op := Op.move (Operand.tmp 0), type := 24, pos := "ref.go:303", after := #[], guard := none }) (v := ?_) rfl (by kernel_rfl) (by kernel_rfl) (by kernel_rfl) (by kernel_rfl) (fun _ _ _ h => h) (Or.inl ⟨by rfl, ?_⟩) ?_
        rotate_left
        · (intro w hE; (try dsimp only); go_simp); (try with_reducible rfl)
        try simp only [Act.put, List.setIfInBounds_toArray, List.set_cons_zero, List.set_cons_succ]
        refine wpAnyE_take (i := 1) (oi := { dst := some 15, op := Op.move (Operand.tmp 3), type := 3, pos := "ref.go:303", after := #[], guard := none }) (v := ?_) rfl (by kernel_rfl) (by kernel_rfl) (by kernel_rfl) (by kernel_rfl) (fun _ _ _ h => h) (Or.inl ⟨by rfl, ?_⟩) ?_
        rotate_left
        · (intro w hE; (try dsimp only); go_simp); (try with_reducible rfl)
        try simp only [Act.put, List.setIfInBounds_toArray, List.set_cons_zero, List.set_cons_succ]
        refine wpAnyE_take (i := 2) (oi := { dst := some 16, op := Op.indexAddr 24 (Operand.tmp 14) (Operand.tmp 15), type := 0, pos := "ref.go:303", after := #[{ on := 0, ground := Ground.data }, { on := 1, ground := Ground.data }], guard := none }) (v := ?_) rfl (by kernel_rfl) (by kernel_rfl) (by kernel_rfl) (by kernel_rfl) (fun _ _ _ h => h) (Or.inl ⟨by rfl, ?_⟩) ?_
        rotate_left
        · (intro w hE; (try dsimp only); go_simp); (try with_reducible rfl)
        try simp only [Act.put, List.setIfInBounds_toArray, List.set_cons_zero, List.set_cons_succ]
        refine wpAnyE_take (i := 3) (oi := { dst := some 17, op := Op.fieldAddr 33 (Operand.tmp 16) 0, type := 0, pos := "ref.go:303", after := #[{ on := 2, ground := Ground.data }], guard := none }) (v := ?_) rfl (by kernel_rfl) (by kernel_rfl) (by kernel_rfl) (by kernel_rfl) (fun _ _ _ h => h) (Or.inl ⟨by rfl, ?_⟩) ?_
        rotate_left
        · (intro w hE; (try dsimp only); go_simp); (try with_reducible rfl)
        try simp only [Act.put, List.setIfInBounds_toArray, List.set_cons_zero, List.set_cons_succ]
        refine wpAnyE_take (i := 4) (oi := { dst := some 18, op := Op.load 3 (Operand.tmp 17), type := 3, pos := "ref.go:303", after := #[{ on := 3, ground := Ground.data }], guard := none }) (v := ?_) rfl (by kernel_rfl) (by kernel_rfl) (by kernel_rfl) (by kernel_rfl) (fun _ _ _ h => h) (Or.inl ⟨by rfl, ?_⟩) ?_
        rotate_left
        · (intro w hE; have c0 := cellb c0 hE; have c1 := cellb c1 hE; (try dsimp only); go_simp); (try with_reducible rfl)
        try simp only [Act.put, List.setIfInBounds_toArray, List.set_cons_zero, List.set_cons_succ]
        refine wpAnyE_take (i := 6) (oi := { dst := some 20, op := Op.move (Operand.tmp 0), type := 24, pos := "ref.go:303", after := #[], guard := none }) (v := ?_) rfl (by kernel_rfl) (by kernel_rfl) (by kernel_rfl) (by kernel_rfl) (fun _ _ _ h => h) (Or.inl ⟨by rfl, ?_⟩) ?_
        rotate_left
        · (intro w hE; (try dsimp only); go_simp); (try with_reducible rfl)
        try simp only [Act.put, List.setIfInBounds_toArray, List.set_cons_zero, List.set_cons_succ]
        refine wpAnyE_take (i := 7) (oi := { dst := some 21, op := Op.move (Operand.tmp 3), type := 3, pos := "ref.go:303", after := #[], guard := none }) (v := ?_) rfl (by kernel_rfl) (by kernel_rfl) (by kernel_rfl) (by kernel_rfl) (fun _ _ _ h => h) (Or.inl ⟨by rfl, ?_⟩) ?_
        rotate_left
        · (intro w hE; (try dsimp only); go_simp); (try with_reducible rfl)
        try simp only [Act.put, List.setIfInBounds_toArray, List.set_cons_zero, List.set_cons_succ]
        refine wpAnyE_take (i := 8) (oi := { dst := some 22, op := Op.indexAddr 24 (Operand.tmp 20) (Operand.tmp 21), type := 0, pos := "ref.go:303", after := #[{ on := 6, ground := Ground.data }, { on := 7, ground := Ground.data }], guard := none }) (v := ?_) rfl (by kernel_rfl) (by kernel_rfl) (by kernel_rfl) (by kernel_rfl) (fun _ _ _ h => h) (Or.inl ⟨by rfl, ?_⟩) ?_
        rotate_left
        · (intro w hE; (try dsimp only); go_simp); (try with_reducible rfl)
        try simp only [Act.put, List.setIfInBounds_toArray, List.set_cons_zero, List.set_cons_succ]
        refine wpAnyE_take (i := 9) (oi := { dst := some 23, op := Op.fieldAddr 33 (Operand.tmp 22) 1, type := 0, pos := "ref.go:303", after := #[{ on := 8, ground := Ground.data }], guard := none }) (v := ?_) rfl (by kernel_rfl) (by kernel_rfl) (by kernel_rfl) (by kernel_rfl) (fun _ _ _ h => h) (Or.inl ⟨by rfl, ?_⟩) ?_
        rotate_left
        · (intro w hE; (try dsimp only); go_simp); (try with_reducible rfl)
        try simp only [Act.put, List.setIfInBounds_toArray, List.set_cons_zero, List.set_cons_succ]
        refine wpAnyE_take (i := 10) (oi := { dst := some 24, op := Op.load 3 (Operand.tmp 23), type := 3, pos := "ref.go:303", after := #[{ on := 9, ground := Ground.data }], guard := none }) (v := ?_) rfl (by kernel_rfl) (by kernel_rfl) (by kernel_rfl) (by kernel_rfl) (fun _ _ _ h => h) (Or.inl ⟨by rfl, ?_⟩) ?_
        rotate_left
        · (intro w hE; have c0 := cellb c0 hE; have c1 := cellb c1 hE; (try dsimp only); go_simp); (try with_reducible rfl)
        try simp only [Act.put, List.setIfInBounds_toArray, List.set_cons_zero, List.set_cons_succ]
        refine wpAnyE_call (i := 5) (oi := { dst := some 19, op := Op.call { callee := Callee.value (Operand.func 16), args := #[Operand.tmp 18, Operand.const (Value.int IntKind.i64 0), Operand.const (Value.int IntKind.i64 100000)], argTypes := #[3, 3, 3] }, type := 3, pos := "ref.go:303", after := #[{ on := 4, ground := Ground.data }], guard := none }) (fun w hE => ofPure (T0.out w)) rfl (by kernel_rfl) (by kernel_rfl) (by kernel_rfl) (by kernel_rfl) (fun _ _ _ h => h) (by rfl) (fun w hE => by (try dsimp only); go_simp) ?_
        try simp only [Act.put, List.setIfInBounds_toArray, List.set_cons_zero, List.set_cons_succ]
        refine wpAnyE_call (i := 11) (oi := { dst := some 25, op := Op.call { callee := Callee.value (Operand.func 16), args := #[Operand.tmp 24, Operand.const (Value.int IntKind.i64 (-1000)), Operand.const (Value.int IntKind.i64 1000)], argTypes := #[3, 3, 3] }, type := 3, pos := "ref.go:303", after := #[{ on := 10, ground := Ground.data }, { on := 5, ground := Ground.chain }], guard := none }) (fun w hE => ofPure (T1.out w)) rfl (by kernel_rfl) (by kernel_rfl) (by kernel_rfl) (by kernel_rfl) (fun _ _ _ h => h) (by rfl) (fun w hE => by (try dsimp only); go_simp) ?_
        try simp only [Act.put, List.setIfInBounds_toArray, List.set_cons_zero, List.set_cons_succ]
        refine wpAnyE_one (i := 12) (o := { dst := some 26, op := Op.buildSlice 26 2 #[(0, Operand.tmp 19), (1, Operand.tmp 25)], type := 26, pos := "ref.go:303", after := #[{ on := 5, ground := Ground.data }, { on := 11, ground := Ground.data }], guard := none }) (by kernel_rfl) rfl (fun wy1 hE K hK => ?_)
        have c0 := cellb c0 hE
        have c1 := cellb c1 hE
        have hbz1 := bthen hbz hE
        clear hE
        go_simp
        obtain ⟨wx1, hwz⟩ : ∃ v, v = wy1.alloc (Obj.cells #[.int .i64 e0, .int .i64 e1] 3) := ⟨_, rfl⟩
        rw [← hwz]
        have hl : Below wy1.heap.size wy1 wx1 := by rw [hwz]; exact below_new _ _
        have hcz1 := bthen hbz1 hl
        have iN : BlkI wx1 wy1.heap.size 3 [e0, e1] := by rw [hwz]; exact Blk.new _ _ _
        generalize wy1.heap.size = G at iN ⊢
        have c0 := cellb c0 hl
        have c1 := cellb c1 hl
        clear hwz
        refine hK _ _ (fun _ => hl) ?_
        clear hK K hl
        try simp only [Act.put, List.setIfInBounds_toArray, List.set_cons_zero, List.set_cons_succ]
        refine wpAnyE_call (i := 13) (oi := { dst := some 27, op := Op.call { callee := Callee.value (Operand.func 15), args := #[Operand.tmp 26], argTypes := #[26] }, type := 3, pos := "ref.go:303", after := #[{ on := 12, ground := Ground.data }, { on := 11, ground := Ground.chain }], guard := none }) (fun w hE => ofPure (TF.out _ w (Blk.carry iN hE))) rfl (by kernel_rfl) (by kernel_rfl) (by kernel_rfl) (by kernel_rfl) (fun _ _ _ h => h) (by rfl) (fun w hE => by (try dsimp only); go_simp) ?_
        try simp only [Act.put, List.setIfInBounds_toArray, List.set_cons_zero, List.set_cons_succ]
        refine wpAnyE_take (i := 14) (oi := { dst := some 4, op := Op.assign (Operand.tmp 27), type := 3, pos := "ref.go:303", after := #[{ on := 13, ground := Ground.data }, { on := 13, ground := Ground.chain }, { on := 0, ground := Ground.phase }, { on := 1, ground := Ground.phase }, { on := 2, ground := Ground.phase }, { on := 3, ground := Ground.phase }, { on := 4, ground := Ground.phase }, { on := 5, ground := Ground.phase }, { on := 6, ground := Ground.phase }, { on := 7, ground := Ground.phase }, { on := 8, ground := Ground.phase }, { on := 9, ground := Ground.phase }, { on := 10, ground := Ground.phase }, { on := 11, ground := Ground.phase }, { on := 12, ground := Ground.phase }, { on := 13, ground := Ground.phase }], guard := none }) (v := ?_) rfl (by kernel_rfl) (by kernel_rfl) (by kernel_rfl) (by kernel_rfl) (fun _ _ _ h => h) (Or.inl ⟨by rfl, ?_⟩) ?_
        rotate_left
        · (intro w hE; (try dsimp only); go_simp); (try with_reducible rfl)
        try simp only [Act.put, List.setIfInBounds_toArray, List.set_cons_zero, List.set_cons_succ]
        refine wpAnyE_done (by kernel_rfl) (fun wy2 hE => ?_) _
        have hbz2 := bthen hcz1 hE
        have c0 := cellb c0 hE
        have c1 := cellb c1 hE
        have iN := iN.carry hE
        clear hE
        have hbel := hbz2
        obtain ⟨W9, hW9⟩ : ∃ v, v = wy2 := ⟨_, rfl⟩
        rw [← hW9] at hbel ⊢
        clear hW9 iN
        clear c0 c1 T0 T1 TF
        by_cases hz : R = 0
        · have hr := HG.out.1 hz
          have hb0 : (R != 0) = false := by rw [bne_eq_false_iff_eq]; exact hz
          have HR := Lib.hid hr
          clear hr hz
          obtain ⟨b, off, cp', he, hcs⟩ := (HV.out.carry hbel).head (by rw [← HN.out]; omega)
          simp only [Value.slice.injEq, Option.some.injEq, Addr.mk.injEq] at he
          obtain ⟨⟨rfl, rfl, -⟩, -, rfl⟩ := he
          obtain ⟨c0, -⟩ := rw2 (hcs k x HX.out) (show pV x = [.int .i64 x.1, .int .i64 x.2] from rfl)
          cases k with
          | zero =>
            have HNX := Lib.hid (OdK.succ HF.out HX.out HR.out (fun j y h => by omega))
            clear hcs c0
            go_upto_region 9 with fail
            refine wp_region_E 99 (by kernel_rfl) ?_
            obtain ⟨wz, hwz⟩ : ∃ v, v = W9.drew := ⟨_, rfl⟩
            rw [← hwz]
            have hlz : Below W9.heap.size W9 wz := by rw [hwz]; exact (Below.refl _ _).drew
            have hbz := bthen hbel hlz
            clear hwz hlz
            refine wpAnyE_take (i := 0) (oi := { dst := some 31, op := Op.move (Operand.tmp 3), type := 3, pos := "ref.go:306", after := #[], guard := none }) (v := ?_) rfl (by kernel_rfl) (by kernel_rfl) (by kernel_rfl) (by kernel_rfl) (fun _ _ _ h => h) (Or.inl ⟨by rfl, ?_⟩) ?_
            rotate_left
            · (intro w hE; (try dsimp only); go_simp); (try with_reducible rfl)
            try simp only [Act.put, List.setIfInBounds_toArray, List.set_cons_zero, List.set_cons_succ]
            refine wpAnyE_take (i := 1) (oi := { dst := some 32, op := Op.binOp BinOp.gtr 3 (Operand.tmp 31) (Operand.const (Value.int IntKind.i64 0)) 3, type := 4, pos := "ref.go:306", after := #[{ on := 0, ground := Ground.data }], guard := none }) (v := ?_) rfl (by kernel_rfl) (by kernel_rfl) (by kernel_rfl) (by kernel_rfl) (fun _ _ _ h => h) (Or.inl ⟨by rfl, ?_⟩) ?_
            rotate_left
            · (intro w hE; (try dsimp only); go_simp); (try with_reducible rfl)
            try simp only [Act.put, List.setIfInBounds_toArray, List.set_cons_zero, List.set_cons_succ]
            refine wpAnyE_take (i := 2) (oi := { dst := some 33, op := Op.move (Operand.tmp 32), type := 4, pos := "ref.go:306", after := #[{ on := 1, ground := Ground.data }], guard := none }) (v := ?_) rfl (by kernel_rfl) (by kernel_rfl) (by kernel_rfl) (by kernel_rfl) (fun _ _ _ h => h) (Or.inl ⟨by rfl, ?_⟩) ?_
            rotate_left
            · (intro w hE; (try dsimp only); go_simp); (try with_reducible rfl)
            try simp only [Act.put, List.setIfInBounds_toArray, List.set_cons_zero, List.set_cons_succ]
            refine wpAnyE_take (i := 3) (oi := { dst := some 34, op := Op.move (Operand.tmp 0), type := 24, pos := "ref.go:306", after := #[{ on := 2, ground := Ground.guard }], guard := some (2, true) }) (v := undef) rfl (by kernel_rfl) (by kernel_rfl) (by kernel_rfl) (by kernel_rfl) (fun _ _ _ h => h) (Or.inr (Or.inr ⟨by rfl, rfl⟩)) ?_
            try simp only [Act.put, List.setIfInBounds_toArray, List.set_cons_zero, List.set_cons_succ]
            refine wpAnyE_take (i := 4) (oi := { dst := some 35, op := Op.move (Operand.tmp 3), type := 3, pos := "ref.go:306", after := #[{ on := 2, ground := Ground.guard }], guard := some (2, true) }) (v := undef) rfl (by kernel_rfl) (by kernel_rfl) (by kernel_rfl) (by kernel_rfl) (fun _ _ _ h => h) (Or.inr (Or.inr ⟨by rfl, rfl⟩)) ?_
            try simp only [Act.put, List.setIfInBounds_toArray, List.set_cons_zero, List.set_cons_succ]
            refine wpAnyE_take (i := 5) (oi := { dst := some 36, op := Op.indexAddr 24 (Operand.tmp 34) (Operand.tmp 35), type := 0, pos := "ref.go:306", after := #[{ on := 3, ground := Ground.data }, { on := 4, ground := Ground.data }, { on := 2, ground := Ground.guard }], guard := some (2, true) }) (v := undef) rfl (by kernel_rfl) (by kernel_rfl) (by kernel_rfl) (by kernel_rfl) (fun _ _ _ h => h) (Or.inr (Or.inr ⟨by rfl, rfl⟩)) ?_
            try simp only [Act.put, List.setIfInBounds_toArray, List.set_cons_zero, List.set_cons_succ]
            refine wpAnyE_take (i := 6) (oi := { dst := some 37, op := Op.fieldAddr 33 (Operand.tmp 36) 0, type := 0, pos := "ref.go:306", after := #[{ on := 5, ground := Ground.data }, { on := 2, ground := Ground.guard }], guard := some (2, true) }) (v := undef) rfl (by kernel_rfl) (by kernel_rfl) (by kernel_rfl) (by kernel_rfl) (fun _ _ _ h => h) (Or.inr (Or.inr ⟨by rfl, rfl⟩)) ?_
            try simp only [Act.put, List.setIfInBounds_toArray, List.set_cons_zero, List.set_cons_succ]
            refine wpAnyE_take (i := 7) (oi := { dst := some 38, op := Op.load 3 (Operand.tmp 37), type := 3, pos := "ref.go:306", after := #[{ on := 6, ground := Ground.data }, { on := 2, ground := Ground.guard }], guard := some (2, true) }) (v := undef) rfl (by kernel_rfl) (by kernel_rfl) (by kernel_rfl) (by kernel_rfl) (fun _ _ _ h => h) (Or.inr (Or.inr ⟨by rfl, rfl⟩)) ?_
            try simp only [Act.put, List.setIfInBounds_toArray, List.set_cons_zero, List.set_cons_succ]
            refine wpAnyE_take (i := 8) (oi := { dst := some 39, op := Op.move (Operand.tmp 0), type := 24, pos := "ref.go:306", after := #[{ on := 2, ground := Ground.guard }], guard := some (2, true) }) (v := undef) rfl (by kernel_rfl) (by kernel_rfl) (by kernel_rfl) (by kernel_rfl) (fun _ _ _ h => h) (Or.inr (Or.inr ⟨by rfl, rfl⟩)) ?_
            try simp only [Act.put, List.setIfInBounds_toArray, List.set_cons_zero, List.set_cons_succ]
            refine wpAnyE_take (i := 9) (oi := { dst := some 40, op := Op.move (Operand.tmp 3), type := 3, pos := "ref.go:306", after := #[{ on := 2, ground := Ground.guard }], guard := some (2, true) }) (v := undef) rfl (by kernel_rfl) (by kernel_rfl) (by kernel_rfl) (by kernel_rfl) (fun _ _ _ h => h) (Or.inr (Or.inr ⟨by rfl, rfl⟩)) ?_
            try simp only [Act.put, List.setIfInBounds_toArray, List.set_cons_zero, List.set_cons_succ]
            refine wpAnyE_take (i := 10) (oi := { dst := some 41, op := Op.binOp BinOp.sub 3 (Operand.tmp 40) (Operand.const (Value.int IntKind.i64 1)) 3, type := 3, pos := "ref.go:306", after := #[{ on := 9, ground := Ground.data }, { on := 2, ground := Ground.guard }], guard := some (2, true) }) (v := undef) rfl (by kernel_rfl) (by kernel_rfl) (by kernel_rfl) (by kernel_rfl) (fun _ _ _ h => h) (Or.inr (Or.inr ⟨by rfl, rfl⟩)) ?_
            try simp only [Act.put, List.setIfInBounds_toArray, List.set_cons_zero, List.set_cons_succ]
            refine wpAnyE_take (i := 11) (oi := { dst := some 42, op := Op.indexAddr 24 (Operand.tmp 39) (Operand.tmp 41), type := 0, pos := "ref.go:306", after := #[{ on := 8, ground := Ground.data }, { on := 10, ground := Ground.data }, { on := 2, ground := Ground.guard }], guard := some (2, true) }) (v := undef) rfl (by kernel_rfl) (by kernel_rfl) (by kernel_rfl) (by kernel_rfl) (fun _ _ _ h => h) (Or.inr (Or.inr ⟨by rfl, rfl⟩)) ?_
            try simp only [Act.put, List.setIfInBounds_toArray, List.set_cons_zero, List.set_cons_succ]
            refine wpAnyE_take (i := 12) (oi := { dst := some 43, op := Op.fieldAddr 33 (Operand.tmp 42) 0, type := 0, pos := "ref.go:306", after := #[{ on := 11, ground := Ground.data }, { on := 2, ground := Ground.guard }], guard := some (2, true) }) (v := undef) rfl (by kernel_rfl) (by kernel_rfl) (by kernel_rfl) (by kernel_rfl) (fun _ _ _ h => h) (Or.inr (Or.inr ⟨by rfl, rfl⟩)) ?_
            try simp only [Act.put, List.setIfInBounds_toArray, List.set_cons_zero, List.set_cons_succ]
            refine wpAnyE_take (i := 13) (oi := { dst := some 44, op := Op.load 3 (Operand.tmp 43), type := 3, pos := "ref.go:306", after := #[{ on := 12, ground := Ground.data }, { on := 2, ground := Ground.guard }], guard := some (2, true) }) (v := undef) rfl (by kernel_rfl) (by kernel_rfl) (by kernel_rfl) (by kernel_rfl) (fun _ _ _ h => h) (Or.inr (Or.inr ⟨by rfl, rfl⟩)) ?_
            try simp only [Act.put, List.setIfInBounds_toArray, List.set_cons_zero, List.set_cons_succ]
            refine wpAnyE_take (i := 14) (oi := { dst := some 45, op := Op.binOp BinOp.leq 3 (Operand.tmp 38) (Operand.tmp 44) 3, type := 4, pos := "ref.go:306", after := #[{ on := 7, ground := Ground.data }, { on := 13, ground := Ground.data }, { on := 2, ground := Ground.guard }], guard := some (2, true) }) (v := undef) rfl (by kernel_rfl) (by kernel_rfl) (by kernel_rfl) (by kernel_rfl) (fun _ _ _ h => h) (Or.inr (Or.inr ⟨by rfl, rfl⟩)) ?_
            try simp only [Act.put, List.setIfInBounds_toArray, List.set_cons_zero, List.set_cons_succ]
            refine wpAnyE_take (i := 15) (oi := { dst := some 46, op := Op.pick (Operand.tmp 33) (Operand.tmp 45) (Operand.const (Value.bool false)), type := 4, pos := "ref.go:306", after := #[{ on := 2, ground := Ground.data }, { on := 14, ground := Ground.data }], guard := none }) (v := ?_) rfl (by kernel_rfl) (by kernel_rfl) (by kernel_rfl) (by kernel_rfl) (fun _ _ _ h => h) (Or.inl ⟨by rfl, ?_⟩) ?_
            rotate_left
            · (intro w hE; (try dsimp only); go_simp); (try with_reducible rfl)
            try simp only [Act.put, List.setIfInBounds_toArray, List.set_cons_zero, List.set_cons_succ]
            refine wpAnyE_done (by kernel_rfl) (fun wy1 hE => ?_) _
            have hbz1 := bthen hbz hE
            clear hE
            have hbel := hbz1
            obtain ⟨W8, hW8⟩ : ∃ v, v = wy1 := ⟨_, rfl⟩
            rw [← hW8] at hbel ⊢
            clear hW8
            go_wp2
            go_roundw
            case rel => exact ⟨0 + 1, by omega, by go_num, HNX.out, hbel⟩
            case measure => simp [intOf]; omega
          | succ k =>
            obtain ⟨y, hy⟩ : ∃ y, l[k]? = some y := ⟨_, List.getElem?_eq_getElem (by rw [← HN.out]; omega)⟩
            obtain ⟨q0, -⟩ := rw2 (hcs k y hy) (show pV y = [.int .i64 y.1, .int .i64 y.2] from rfl)
            have HY := Lib.hid hy
            have r2 : (0 : Int) < (k : Int) + 1 := by omega
            have r6 : IntKind.i64.wrap ((k : Int) + 1 - 1) = (k : Int) := by rw [show (k : Int) + 1 - 1 = k by omega]; exact IntWalk.i64_in _ (by omega)
            have r8 : (0 : Int) ≤ (k : Int) := by omega
            have r4 : (k : Int) < (N : Int) := by omega
            have r5 : (0 : Int) ≤ (k : Int) + 1 := by omega
            have r9 : (k : Int) + 1 < (N : Int) := by omega
            have r7 : IntKind.i64.wrap (k : Int) = (k : Int) := IntWalk.i64_in _ (by omega)
            have r3 : max 0 (k : Int) = k := by omega
            clear hcs hy
            by_cases hc : x.1 ≤ y.1
            · have HE := Lib.hid (show (11 : Int) = 0 ↔ OdOk l from ⟨fun h => by omega, fun h => by have := h.inc k y x HY.out HX.out; omega⟩)
              have hd : decide (x.1 ≤ y.1) = true := by simp [hc]
              go_upto_region 9 with fail
              refine wp_region_E 99 (by kernel_rfl) ?_
              obtain ⟨wz, hwz⟩ : ∃ v, v = W9.drew := ⟨_, rfl⟩
              rw [← hwz]
              have hlz : Below W9.heap.size W9 wz := by rw [hwz]; exact (Below.refl _ _).drew
              have hbz := bthen hbel hlz
              have c0 := cellb c0 hlz
              have q0 := cellb q0 hlz
              clear hwz hlz
              refine wpAnyE_take (i := 0) (oi := { dst := some 31, op := Op.move (Operand.tmp 3), type := 3, pos := "ref.go:306", after := #[], guard := none }) (v := ?_) rfl (by kernel_rfl) (by kernel_rfl) (by kernel_rfl) (by kernel_rfl) (fun _ _ _ h => h) (Or.inl ⟨by rfl, ?_⟩) ?_
              rotate_left
              · (intro w hE; (try dsimp only); go_simp); (try with_reducible rfl)
              try simp only [Act.put, List.setIfInBounds_toArray, List.set_cons_zero, List.set_cons_succ]
              refine wpAnyE_take (i := 1) (oi := { dst := some 32, op := Op.binOp BinOp.gtr 3 (Operand.tmp 31) (Operand.const (Value.int IntKind.i64 0)) 3, type := 4, pos := "ref.go:306", after := #[{ on := 0, ground := Ground.data }], guard := none }) (v := ?_) rfl (by kernel_rfl) (by kernel_rfl) (by kernel_rfl) (by kernel_rfl) (fun _ _ _ h => h) (Or.inl ⟨by rfl, ?_⟩) ?_
              rotate_left
              · (intro w hE; (try dsimp only); go_simp); (try with_reducible rfl)
              try simp only [Act.put, List.setIfInBounds_toArray, List.set_cons_zero, List.set_cons_succ]
              refine wpAnyE_take (i := 2) (oi := { dst := some 33, op := Op.move (Operand.tmp 32), type := 4, pos := "ref.go:306", after := #[{ on := 1, ground := Ground.data }], guard := none }) (v := ?_) rfl (by kernel_rfl) (by kernel_rfl) (by kernel_rfl) (by kernel_rfl) (fun _ _ _ h => h) (Or.inl ⟨by rfl, ?_⟩) ?_
              rotate_left
              · (intro w hE; (try dsimp only); go_simp); (try with_reducible rfl)
              try simp only [Act.put, List.setIfInBounds_toArray, List.set_cons_zero, List.set_cons_succ]
              refine wpAnyE_take (i := 3) (oi := { dst := some 34, op := Op.move (Operand.tmp 0), type := 24, pos := "ref.go:306", after := #[{ on := 2, ground := Ground.guard }], guard := some (2, true) }) (v := ?_) rfl (by kernel_rfl) (by kernel_rfl) (by kernel_rfl) (by kernel_rfl) (fun _ _ _ h => h) (Or.inl ⟨by rfl, ?_⟩) ?_
              rotate_left
              · (intro w hE; (try dsimp only); go_simp); (try with_reducible rfl)
              try simp only [Act.put, List.setIfInBounds_toArray, List.set_cons_zero, List.set_cons_succ]
              refine wpAnyE_take (i := 4) (oi := { dst := some 35, op := Op.move (Operand.tmp 3), type := 3, pos := "ref.go:306", after := #[{ on := 2, ground := Ground.guard }], guard := some (2, true) }) (v := ?_) rfl (by kernel_rfl) (by kernel_rfl) (by kernel_rfl) (by kernel_rfl) (fun _ _ _ h => h) (Or.inl ⟨by rfl, ?_⟩) ?_
              rotate_left
              · (intro w hE; (try dsimp only); go_simp); (try with_reducible rfl)
              try simp only [Act.put, List.setIfInBounds_toArray, List.set_cons_zero, List.set_cons_succ]
              refine wpAnyE_take (i := 5) (oi := { dst := some 36, op := Op.indexAddr 24 (Operand.tmp 34) (Operand.tmp 35), type := 0, pos := "ref.go:306", after := #[{ on := 3, ground := Ground.data }, { on := 4, ground := Ground.data }, { on := 2, ground := Ground.guard }], guard := some (2, true) }) (v := ?_) rfl (by kernel_rfl) (by kernel_rfl) (by kernel_rfl) (by kernel_rfl) (fun _ _ _ h => h) (Or.inl ⟨by rfl, ?_⟩) ?_
              rotate_left
              · (intro w hE; (try dsimp only); go_simp); (try with_reducible rfl)
              try simp only [Act.put, List.setIfInBounds_toArray, List.set_cons_zero, List.set_cons_succ]
              refine wpAnyE_take (i := 6) (oi := { dst := some 37, op := Op.fieldAddr 33 (Operand.tmp 36) 0, type := 0, pos := "ref.go:306", after := #[{ on := 5, ground := Ground.data }, { on := 2, ground := Ground.guard }], guard := some (2, true) }) (v := ?_) rfl (by kernel_rfl) (by kernel_rfl) (by kernel_rfl) (by kernel_rfl) (fun _ _ _ h => h) (Or.inl ⟨by rfl, ?_⟩) ?_
              rotate_left
              · (intro w hE; (try dsimp only); go_simp); (try with_reducible rfl)
              try simp only [Act.put, List.setIfInBounds_toArray, List.set_cons_zero, List.set_cons_succ]
              refine wpAnyE_take (i := 7) (oi := { dst := some 38, op := Op.load 3 (Operand.tmp 37), type := 3, pos := "ref.go:306", after := #[{ on := 6, ground := Ground.data }, { on := 2, ground := Ground.guard }], guard := some (2, true) }) (v := ?_) rfl (by kernel_rfl) (by kernel_rfl) (by kernel_rfl) (by kernel_rfl) (fun _ _ _ h => h) (Or.inl ⟨by rfl, ?_⟩) ?_
              rotate_left
              · (intro w hE; have c0 := cellb c0 hE; have q0 := cellb q0 hE; (try dsimp only); go_simp); (try with_reducible rfl)
              try simp only [Act.put, List.setIfInBounds_toArray, List.set_cons_zero, List.set_cons_succ]
              refine wpAnyE_take (i := 8) (oi := { dst := some 39, op := Op.move (Operand.tmp 0), type := 24, pos := "ref.go:306", after := #[{ on := 2, ground := Ground.guard }], guard := some (2, true) }) (v := ?_) rfl (by kernel_rfl) (by kernel_rfl) (by kernel_rfl) (by kernel_rfl) (fun _ _ _ h => h) (Or.inl ⟨by rfl, ?_⟩) ?_
              rotate_left
              · (intro w hE; (try dsimp only); go_simp); (try with_reducible rfl)
              try simp only [Act.put, List.setIfInBounds_toArray, List.set_cons_zero, List.set_cons_succ]
              refine wpAnyE_take (i := 9) (oi := { dst := some 40, op := Op.move (Operand.tmp 3), type := 3, pos := "ref.go:306", after := #[{ on := 2, ground := Ground.guard }], guard := some (2, true) }) (v := ?_) rfl (by kernel_rfl) (by kernel_rfl) (by kernel_rfl) (by kernel_rfl) (fun _ _ _ h => h) (Or.inl ⟨by rfl, ?_⟩) ?_
              rotate_left
              · (intro w hE; (try dsimp only); go_simp); (try with_reducible rfl)
              try simp only [Act.put, List.setIfInBounds_toArray, List.set_cons_zero, List.set_cons_succ]
              refine wpAnyE_take (i := 10) (oi := { dst := some 41, op := Op.binOp BinOp.sub 3 (Operand.tmp 40) (Operand.const (Value.int IntKind.i64 1)) 3, type := 3, pos := "ref.go:306", after := #[{ on := 9, ground := Ground.data }, { on := 2, ground := Ground.guard }], guard := some (2, true) }) (v := ?_) rfl (by kernel_rfl) (by kernel_rfl) (by kernel_rfl) (by kernel_rfl) (fun _ _ _ h => h) (Or.inl ⟨by rfl, ?_⟩) ?_
              rotate_left
              · (intro w hE; (try dsimp only); go_simp); (try with_reducible rfl)
              try simp only [Act.put, List.setIfInBounds_toArray, List.set_cons_zero, List.set_cons_succ]
              refine wpAnyE_take (i := 11) (oi := { dst := some 42, op := Op.indexAddr 24 (Operand.tmp 39) (Operand.tmp 41), type := 0, pos := "ref.go:306", after := #[{ on := 8, ground := Ground.data }, { on := 10, ground := Ground.data }, { on := 2, ground := Ground.guard }], guard := some (2, true) }) (v := ?_) rfl (by kernel_rfl) (by kernel_rfl) (by kernel_rfl) (by kernel_rfl) (fun _ _ _ h => h) (Or.inl ⟨by rfl, ?_⟩) ?_
              rotate_left
              · (intro w hE; (try dsimp only); go_simp); (try with_reducible rfl)
              try simp only [Act.put, List.setIfInBounds_toArray, List.set_cons_zero, List.set_cons_succ]
              refine wpAnyE_take (i := 12) (oi := { dst := some 43, op := Op.fieldAddr 33 (Operand.tmp 42) 0, type := 0, pos := "ref.go:306", after := #[{ on := 11, ground := Ground.data }, { on := 2, ground := Ground.guard }], guard := some (2, true) }) (v := ?_) rfl (by kernel_rfl) (by kernel_rfl) (by kernel_rfl) (by kernel_rfl) (fun _ _ _ h => h) (Or.inl ⟨by rfl, ?_⟩) ?_
              rotate_left
              · (intro w hE; (try dsimp only); go_simp); (try with_reducible rfl)
              try simp only [Act.put, List.setIfInBounds_toArray, List.set_cons_zero, List.set_cons_succ]
              refine wpAnyE_take (i := 13) (oi := { dst := some 44, op := Op.load 3 (Operand.tmp 43), type := 3, pos := "ref.go:306", after := #[{ on := 12, ground := Ground.data }, { on := 2, ground := Ground.guard }], guard := some (2, true) }) (v := ?_) rfl (by kernel_rfl) (by kernel_rfl) (by kernel_rfl) (by kernel_rfl) (fun _ _ _ h => h) (Or.inl ⟨by rfl, ?_⟩) ?_
              rotate_left
              · (intro w hE; have c0 := cellb c0 hE; have q0 := cellb q0 hE; (try dsimp only); go_simp); (try with_reducible rfl)
              try simp only [Act.put, List.setIfInBounds_toArray, List.set_cons_zero, List.set_cons_succ]
              refine wpAnyE_take (i := 14) (oi := { dst := some 45, op := Op.binOp BinOp.leq 3 (Operand.tmp 38) (Operand.tmp 44) 3, type := 4, pos := "ref.go:306", after := #[{ on := 7, ground := Ground.data }, { on := 13, ground := Ground.data }, { on := 2, ground := Ground.guard }], guard := some (2, true) }) (v := ?_) rfl (by kernel_rfl) (by kernel_rfl) (by kernel_rfl) (by kernel_rfl) (fun _ _ _ h => h) (Or.inl ⟨by rfl, ?_⟩) ?_
              rotate_left
              · (intro w hE; (try dsimp only); go_simp); (try with_reducible rfl)
              try simp only [Act.put, List.setIfInBounds_toArray, List.set_cons_zero, List.set_cons_succ]
              refine wpAnyE_take (i := 15) (oi := { dst := some 46, op := Op.pick (Operand.tmp 33) (Operand.tmp 45) (Operand.const (Value.bool false)), type := 4, pos := "ref.go:306", after := #[{ on := 2, ground := Ground.data }, { on := 14, ground := Ground.data }], guard := none }) (v := ?_) rfl (by kernel_rfl) (by kernel_rfl) (by kernel_rfl) (by kernel_rfl) (fun _ _ _ h => h) (Or.inl ⟨by rfl, ?_⟩) ?_
              rotate_left
              · (intro w hE; (try dsimp only); go_simp); (try with_reducible rfl)
              try simp only [Act.put, List.setIfInBounds_toArray, List.set_cons_zero, List.set_cons_succ]
              refine wpAnyE_done (by kernel_rfl) (fun wy1 hE => ?_) _
              have hbz1 := bthen hbz hE
              have c0 := cellb c0 hE
              have q0 := cellb q0 hE
              clear hE
              have hbel := hbz1
              obtain ⟨W8, hW8⟩ : ∃ v, v = wy1 := ⟨_, rfl⟩
              rw [← hW8] at hbel ⊢
              clear hW8
              go_wp2
              go_ret
              exact ⟨⟨_, rfl, HE.out⟩, hbel⟩
            · have HNX := Lib.hid (OdK.succ HF.out HX.out HR.out (fun j y' h hy' => by
                obtain rfl : k = j := by omega
                rw [HY.out, Option.some.injEq] at hy'
                subst hy'; omega))
              have hd : decide (x.1 ≤ y.1) = false := by simp [hc]
              go_upto_region 9 with fail
              refine wp_region_E 99 (by kernel_rfl) ?_
              obtain ⟨wz, hwz⟩ : ∃ v, v = W9.drew := ⟨_, rfl⟩
              rw [← hwz]
              have hlz : Below W9.heap.size W9 wz := by rw [hwz]; exact (Below.refl _ _).drew
              have hbz := bthen hbel hlz
              have c0 := cellb c0 hlz
              have q0 := cellb q0 hlz
              clear hwz hlz
              refine wpAnyE_take (i := 0) (oi := { dst := some 31, op := Op.move (Operand.tmp 3), type := 3, pos := "ref.go:306", after := #[], guard := none }) (v := ?_) rfl (by kernel_rfl) (by kernel_rfl) (by kernel_rfl) (by kernel_rfl) (fun _ _ _ h => h) (Or.inl ⟨by rfl, ?_⟩) ?_
              rotate_left
              · (intro w hE; (try dsimp only); go_simp); (try with_reducible rfl)
              try simp only [Act.put, List.setIfInBounds_toArray, List.set_cons_zero, List.set_cons_succ]
              refine wpAnyE_take (i := 1) (oi := { dst := some 32, op := Op.binOp BinOp.gtr 3 (Operand.tmp 31) (Operand.const (Value.int IntKind.i64 0)) 3, type := 4, pos := "ref.go:306", after := #[{ on := 0, ground := Ground.data }], guard := none }) (v := ?_) rfl (by kernel_rfl) (by kernel_rfl) (by kernel_rfl) (by kernel_rfl) (fun _ _ _ h => h) (Or.inl ⟨by rfl, ?_⟩) ?_
              rotate_left
              · (intro w hE; (try dsimp only); go_simp); (try with_reducible rfl)
              try simp only [Act.put, List.setIfInBounds_toArray, List.set_cons_zero, List.set_cons_succ]
              refine wpAnyE_take (i := 2) (oi := { dst := some 33, op := Op.move (Operand.tmp 32), type := 4, pos := "ref.go:306", after := #[{ on := 1, ground := Ground.data }], guard := none }) (v := ?_) rfl (by kernel_rfl) (by kernel_rfl) (by kernel_rfl) (by kernel_rfl) (fun _ _ _ h => h) (Or.inl ⟨by rfl, ?_⟩) ?_
              rotate_left
              · (intro w hE; (try dsimp only); go_simp); (try with_reducible rfl)
              try simp only [Act.put, List.setIfInBounds_toArray, List.set_cons_zero, List.set_cons_succ]
              refine wpAnyE_take (i := 3) (oi := { dst := some 34, op := Op.move (Operand.tmp 0), type := 24, pos := "ref.go:306", after := #[{ on := 2, ground := Ground.guard }], guard := some (2, true) }) (v := ?_) rfl (by kernel_rfl) (by kernel_rfl) (by kernel_rfl) (by kernel_rfl) (fun _ _ _ h => h) (Or.inl ⟨by rfl, ?_⟩) ?_
              rotate_left
              · (intro w hE; (try dsimp only); go_simp); (try with_reducible rfl)
              try simp only [Act.put, List.setIfInBounds_toArray, List.set_cons_zero, List.set_cons_succ]
              refine wpAnyE_take (i := 4) (oi := { dst := some 35, op := Op.move (Operand.tmp 3), type := 3, pos := "ref.go:306", after := #[{ on := 2, ground := Ground.guard }], guard := some (2, true) }) (v := ?_) rfl (by kernel_rfl) (by kernel_rfl) (by kernel_rfl) (by kernel_rfl) (fun _ _ _ h => h) (Or.inl ⟨by rfl, ?_⟩) ?_
              rotate_left
              · (intro w hE; (try dsimp only); go_simp); (try with_reducible rfl)
              try simp only [Act.put, List.setIfInBounds_toArray, List.set_cons_zero, List.set_cons_succ]
              refine wpAnyE_take (i := 5) (oi := { dst := some 36, op := Op.indexAddr 24 (Operand.tmp 34) (Operand.tmp 35), type := 0, pos := "ref.go:306", after := #[{ on := 3, ground := Ground.data }, { on := 4, ground := Ground.data }, { on := 2, ground := Ground.guard }], guard := some (2, true) }) (v := ?_) rfl (by kernel_rfl) (by kernel_rfl) (by kernel_rfl) (by kernel_rfl) (fun _ _ _ h => h) (Or.inl ⟨by rfl, ?_⟩) ?_
              rotate_left
              · (intro w hE; (try dsimp only); go_simp); (try with_reducible rfl)
              try simp only [Act.put, List.setIfInBounds_toArray, List.set_cons_zero, List.set_cons_succ]
              refine wpAnyE_take (i := 6) (oi := { dst := some 37, op := Op.fieldAddr 33 (Operand.tmp 36) 0, type := 0, pos := "ref.go:306", after := #[{ on := 5, ground := Ground.data }, { on := 2, ground := Ground.guard }], guard := some (2, true) }) (v := ?_) rfl (by kernel_rfl) (by kernel_rfl) (by kernel_rfl) (by kernel_rfl) (fun _ _ _ h => h) (Or.inl ⟨by rfl, ?_⟩) ?_
              rotate_left
              · (intro w hE; (try dsimp only); go_simp); (try with_reducible rfl)
              try simp only [Act.put, List.setIfInBounds_toArray, List.set_cons_zero, List.set_cons_succ]
              refine wpAnyE_take (i := 7) (oi := { dst := some 38, op := Op.load 3 (Operand.tmp 37), type := 3, pos := "ref.go:306", after := #[{ on := 6, ground := Ground.data }, { on := 2, ground := Ground.guard }], guard := some (2, true) }) (v := ?_) rfl (by kernel_rfl) (by kernel_rfl) (by kernel_rfl) (by kernel_rfl) (fun _ _ _ h => h) (Or.inl ⟨by rfl, ?_⟩) ?_
              rotate_left
              · (intro w hE; have c0 := cellb c0 hE; have q0 := cellb q0 hE; (try dsimp only); go_simp); (try with_reducible rfl)
              try simp only [Act.put, List.setIfInBounds_toArray, List.set_cons_zero, List.set_cons_succ]
              refine wpAnyE_take (i := 8) (oi := { dst := some 39, op := Op.move (Operand.tmp 0), type := 24, pos := "ref.go:306", after := #[{ on := 2, ground := Ground.guard }], guard := some (2, true) }) (v := ?_) rfl (by kernel_rfl) (by kernel_rfl) (by kernel_rfl) (by kernel_rfl) (fun _ _ _ h => h) (Or.inl ⟨by rfl, ?_⟩) ?_
              rotate_left
              · (intro w hE; (try dsimp only); go_simp); (try with_reducible rfl)
              try simp only [Act.put, List.setIfInBounds_toArray, List.set_cons_zero, List.set_cons_succ]
              refine wpAnyE_take (i := 9) (oi := { dst := some 40, op := Op.move (Operand.tmp 3), type := 3, pos := "ref.go:306", after := #[{ on := 2, ground := Ground.guard }], guard := some (2, true) }) (v := ?_) rfl (by kernel_rfl) (by kernel_rfl) (by kernel_rfl) (by kernel_rfl) (fun _ _ _ h => h) (Or.inl ⟨by rfl, ?_⟩) ?_
              rotate_left
              · (intro w hE; (try dsimp only); go_simp); (try with_reducible rfl)
              try simp only [Act.put, List.setIfInBounds_toArray, List.set_cons_zero, List.set_cons_succ]
              refine wpAnyE_take (i := 10) (oi := { dst := some 41, op := Op.binOp BinOp.sub 3 (Operand.tmp 40) (Operand.const (Value.int IntKind.i64 1)) 3, type := 3, pos := "ref.go:306", after := #[{ on := 9, ground := Ground.data }, { on := 2, ground := Ground.guard }], guard := some (2, true) }) (v := ?_) rfl (by kernel_rfl) (by kernel_rfl) (by kernel_rfl) (by kernel_rfl) (fun _ _ _ h => h) (Or.inl ⟨by rfl, ?_⟩) ?_
              rotate_left
              · (intro w hE; (try dsimp only); go_simp); (try with_reducible rfl)
              try simp only [Act.put, List.setIfInBounds_toArray, List.set_cons_zero, List.set_cons_succ]
              refine wpAnyE_take (i := 11) (oi := { dst := some 42, op := Op.indexAddr 24 (Operand.tmp 39) (Operand.tmp 41), type := 0, pos := "ref.go:306", after := #[{ on := 8, ground := Ground.data }, { on := 10, ground := Ground.data }, { on := 2, ground := Ground.guard }], guard := some (2, true) }) (v := ?_) rfl (by kernel_rfl) (by kernel_rfl) (by kernel_rfl) (by kernel_rfl) (fun _ _ _ h => h) (Or.inl ⟨by rfl, ?_⟩) ?_
              rotate_left
              · (intro w hE; (try dsimp only); go_simp); (try with_reducible rfl)
              try simp only [Act.put, List.setIfInBounds_toArray, List.set_cons_zero, List.set_cons_succ]
              refine wpAnyE_take (i := 12) (oi := { dst := some 43, op := Op.fieldAddr 33 (Operand.tmp 42) 0, type := 0, pos := "ref.go:306", after := #[{ on := 11, ground := Ground.data }, { on := 2, ground := Ground.guard }], guard := some (2, true) }) (v := ?_) rfl (by kernel_rfl) (by kernel_rfl) (by kernel_rfl) (by kernel_rfl) (fun _ _ _ h => h) (Or.inl ⟨by rfl, ?_⟩) ?_
              rotate_left
              · (intro w hE; (try dsimp only); go_simp); (try with_reducible rfl)
              try simp only [Act.put, List.setIfInBounds_toArray, List.set_cons_zero, List.set_cons_succ]
              refine wpAnyE_take (i := 13) (oi := { dst := some 44, op := Op.load 3 (Operand.tmp 43), type := 3, pos := "ref.go:306", after := #[{ on := 12, ground := Ground.data }, { on := 2, ground := Ground.guard }], guard := some (2, true) }) (v := ?_) rfl (by kernel_rfl) (by kernel_rfl) (by kernel_rfl) (by kernel_rfl) (fun _ _ _ h => h) (Or.inl ⟨by rfl, ?_⟩) ?_
              rotate_left
              · (intro w hE; have c0 := cellb c0 hE; have q0 := cellb q0 hE; (try dsimp only); go_simp); (try with_reducible rfl)
              try simp only [Act.put, List.setIfInBounds_toArray, List.set_cons_zero, List.set_cons_succ]
              refine wpAnyE_take (i := 14) (oi := { dst := some 45, op := Op.binOp BinOp.leq 3 (Operand.tmp 38) (Operand.tmp 44) 3, type := 4, pos := "ref.go:306", after := #[{ on := 7, ground := Ground.data }, { on := 13, ground := Ground.data }, { on := 2, ground := Ground.guard }], guard := some (2, true) }) (v := ?_) rfl (by kernel_rfl) (by kernel_rfl) (by kernel_rfl) (by kernel_rfl) (fun _ _ _ h => h) (Or.inl ⟨by rfl, ?_⟩) ?_
              rotate_left
              · (intro w hE; (try dsimp only); go_simp); (try with_reducible rfl)
              try simp only [Act.put, List.setIfInBounds_toArray, List.set_cons_zero, List.set_cons_succ]
              refine wpAnyE_take (i := 15) (oi := { dst := some 46, op := Op.pick (Operand.tmp 33) (Operand.tmp 45) (Operand.const (Value.bool false)), type := 4, pos := "ref.go:306", after := #[{ on := 2, ground := Ground.data }, { on := 14, ground := Ground.data }], guard := none }) (v := ?_) rfl (by kernel_rfl) (by kernel_rfl) (by kernel_rfl) (by kernel_rfl) (fun _ _ _ h => h) (Or.inl ⟨by rfl, ?_⟩) ?_
              rotate_left
              · (intro w hE; (try dsimp only); go_simp); (try with_reducible rfl)
              try simp only [Act.put, List.setIfInBounds_toArray, List.set_cons_zero, List.set_cons_succ]
              refine wpAnyE_done (by kernel_rfl) (fun wy1 hE => ?_) _
              have hbz1 := bthen hbz hE
              have c0 := cellb c0 hE
              have q0 := cellb q0 hE
              clear hE
              have hbel := hbz1
              obtain ⟨W8, hW8⟩ : ∃ v, v = wy1 := ⟨_, rfl⟩
              rw [← hW8] at hbel ⊢
              clear hW8
              go_wp2
              go_roundw
              case rel => exact ⟨(k + 1) + 1, by omega, by go_num, HNX.out, hbel⟩
              case measure => simp [intOf]; omega
        · have HE := Lib.hid (show R = 0 ↔ OdOk l from ⟨fun h => absurd h hz, fun h => HG.out.2 (h.rng k x HX.out)⟩)
          have hb0 : (R != 0) = true := by rw [bne_iff_ne]; exact hz
          clear hz
          go_wp2
          go_ret
          exact ⟨⟨_, rfl, HE.out⟩, hbel⟩
      · obtain rfl : k = N := by omega
        have hdk : ¬ (k : Int) < (k : Int) := by omega
        have HE := Lib.hid (show (0 : Int) = 0 ↔ OdOk l from ⟨fun _ => OdK.full (by rw [← HN.out]; exact HF.out) (by rw [← HN.out]; omega), fun _ => rfl⟩)
        go_wp2
        go_ret
        exact ⟨⟨_, rfl, by simpa using HE.out⟩, hbel⟩
/-- powers as they are to be. -/
structure PwOk (l : List Int) : Prop where
  len : l.length ≤ 256
  rng : ∀ (k : Nat) (x : Int), l[k]? = some x → 0 ≤ x ∧ x ≤ 1000
set_option maxRecDepth 100000 in
set_option maxHeartbeats 4000000 in
theorem CheckPowersR_any (a b c : Int) (v : Value) (l : List Int) (w : World) (hl : l.length ≤ 1000000) (hv : Ints w v l) (hok : LsOk a b c) :
    Calls Try.prog 6 #[.agg #[.int .i64 a, .int .i64 b, .int .i64 c], v] w fun r w' => (∃ e, r = .returned (.int .i64 e) ∧ (e = 0 ↔ PwOk l)) ∧ Below w.heap.size w w' := by
  have TL := Lib.hid (fun W => CheckLossesR_any a b c W)
  rw [losE_zero.2 hok] at TL
  have HV := Lib.hid hv
  obtain ⟨xa, cp, rfl, -⟩ := id hv
  obtain ⟨N, hN⟩ : ∃ N, N = l.length := ⟨_, rfl⟩
  rw [← hN] at HV hl ⊢
  have HN := Lib.hid hN
  clear hN hv
  go_enter Try.func6, Try.ntmps6
  go_wp2_with fail
  have hB0 := below_new w (.cells #[.int .i64 a, .int .i64 b, .int .i64 c] 23)
  refine (TL.out _).mono ?_
  rintro e w2 ⟨rfl, hb2⟩
  have hB := bthen hB0 hb2
  clear hB0 hb2 TL
  by_cases hbig : 256 < N
  · have he : (5 : Int) = 0 ↔ PwOk l := ⟨fun h => by omega, fun h => by have := h.len; have := HN.out; omega⟩
    have d1 : (256 : Int) < (N : Int) := by omega
    have HE := Lib.hid he
    clear he hbig
    go_wp2
    go_ret
    exact ⟨⟨_, rfl, HE.out⟩, hB⟩
  · have d1 : ¬ (256 : Int) < (N : Int) := by omega
    go_wp2_with fail
    go_loopw [6] (fun i wr => ∃ k : Nat, k ≤ N ∧ i = .int .i64 k ∧ (∀ (j : Nat) (x : Int), j < k → l[j]? = some x → 0 ≤ x ∧ x ≤ 1000) ∧ wr = w2) (fun i _ => N - (intOf i).toNat)
    case atStart => exact ⟨0, by omega, rfl, fun _ _ h => by omega, rfl⟩
    case round =>
      obtain ⟨k, hk, rfl, hf, rfl⟩ := hrel
      have HF := Lib.hid hf
      clear hf
      by_cases hlt : k < N
      · have hdk : (k : Int) < (N : Int) := by omega
        obtain ⟨x, hx⟩ : ∃ x, l[k]? = some x := ⟨_, List.getElem?_eq_getElem (by rw [← HN.out]; exact hlt)⟩
        obtain ⟨b', off, cp', he, hcs⟩ := (Ints.below HV.out hB).head (by rw [← HN.out]; omega)
        simp only [Value.slice.injEq] at he
        obtain ⟨rfl, -, rfl⟩ := he
        have c0 := hcs k (by rw [← HN.out]; exact hlt)
        rw [hx, Option.getD_some] at c0
        have HX := Lib.hid hx
        have T0 := Lib.hid (fun W => CheckRange_any x 0 1000 W)
        have hgx : withinE x 0 1000 = 0 ↔ (0 ≤ x ∧ x ≤ 1000) := withinG_zero
        obtain ⟨R, hR⟩ : ∃ e, e = withinE x 0 1000 := ⟨_, rfl⟩
        rw [← hR] at T0 hgx
        have HG := Lib.hid hgx
        clear hcs hx hR hgx
        go_wp2_with fail
        refine (T0.out _).mono ?_
        rintro e w3 ⟨rfl, rfl⟩
        clear T0 c0
        by_cases hz : R = 0
        · have hb0 : (R != 0) = false := by rw [bne_eq_false_iff_eq]; exact hz
          have HNX := Lib.hid (fun (j : Nat) (y : Int) (hj : j < k + 1) (hy : l[j]? = some y) => (by
            rcases Nat.lt_or_ge j k with h1 | h1
            · exact HF.out j y h1 hy
            · obtain rfl : j = k := by omega
              rw [HX.out, Option.some.injEq] at hy
              subst hy; exact HG.out.1 hz : 0 ≤ y ∧ y ≤ 1000))
          clear hz
          go_wp2
          go_roundw
          case rel => exact ⟨k + 1, by omega, by go_num, HNX.out, by trivial⟩
          case measure => simp [intOf]; omega
        · have HE := Lib.hid (show R = 0 ↔ PwOk l from ⟨fun h => absurd h hz, fun h => HG.out.2 (h.rng k x HX.out)⟩)
          have hb0 : (R != 0) = true := by rw [bne_iff_ne]; exact hz
          clear hz
          go_wp2
          go_ret
          exact ⟨⟨_, rfl, HE.out⟩, hB⟩
      · obtain rfl : k = N := by omega
        have hdk : ¬ (k : Int) < (k : Int) := by omega
        have HE := Lib.hid (show (0 : Int) = 0 ↔ PwOk l from ⟨fun _ => ⟨by have := HN.out; omega, fun j x hx => HF.out j x (by have := (List.getElem?_eq_some_iff.1 hx).1; have := HN.out; omega) hx⟩, fun _ => rfl⟩)
        go_wp2
        go_ret
        exact ⟨⟨_, rfl, by simpa using HE.out⟩, hB⟩
set_option maxRecDepth 100000 in
set_option maxHeartbeats 2000000 in
theorem AskedR_any (v : Value) (l : List P2) (t : Int) (w : World) (hl : l.length ≤ 1000000) (hv : Prs w v l) :
    Calls Try.prog 11 #[v, .int .i64 t] w fun r w' => r = .returned (.int .i64 (askL l t)) ∧ w = w' := by
  have HV := Lib.hid hv
  obtain ⟨a, cp, rfl, -⟩ := hv.slice
  obtain ⟨N, hN⟩ : ∃ N, N = l.length := ⟨_, rfl⟩
  rw [← hN] at HV hl ⊢
  have HN := Lib.hid hN
  clear hN hv
  go_enter Try.func11, Try.ntmps11
  go_wp2_with fail
  go_loop [5, 6] (fun s i => ∃ k : Nat, k ≤ N ∧ i = .int .i64 k ∧ s = .int .i64 (askL (l.take k) t)) (fun _ i => N - (intOf i).toNat)
  case atStart => exact ⟨0, by omega, rfl, rfl⟩
  case round =>
    obtain ⟨k, hk, rfl, rfl⟩ := hrel
    by_cases hlt : k < N
    · have hdk : (k : Int) < (N : Int) := by omega
      obtain ⟨x, hx⟩ : ∃ x, l[k]? = some x := ⟨_, List.getElem?_eq_getElem (by rw [← HN.out]; exact hlt)⟩
      obtain ⟨b, off, cp', he, hcs⟩ := HV.out.head (by rw [← HN.out]; omega)
      simp only [Value.slice.injEq] at he
      obtain ⟨rfl, -, rfl⟩ := he
      obtain ⟨c0, c1⟩ := rw2 (hcs k x hx) (show pV x = [.int .i64 x.1, .int .i64 x.2] from rfl)
      have hs := askL_take l t hx
      obtain ⟨A, hA⟩ : ∃ a, a = askL (l.take k) t := ⟨_, rfl⟩
      rw [← hA] at hs ⊢
      clear hcs hx hA
      by_cases hc : x.1 ≤ t
      · rw [if_pos hc] at hs
        have HS := Lib.hid hs
        clear hs
        go_wp2
        go_round
        case rel => exact ⟨k + 1, by omega, by go_num, by rw [HS.out]⟩
        case measure => simp [intOf]; omega
      · rw [if_neg hc] at hs
        have HS := Lib.hid hs
        clear hs
        go_wp2
        go_round
        case rel => exact ⟨k + 1, by omega, by go_num, by rw [HS.out]⟩
        case measure => simp [intOf]; omega
    · obtain rfl : k = N := by omega
      have hdk : ¬ (k : Int) < (k : Int) := by omega
      have e : l.take k = l := by rw [HN.out, List.take_length]
      rw [e]
      go_wp2
      go_ret
      exact ⟨rfl, rfl⟩
end Go.Proofs.Ytipmjjnhdjcoiaa

/- The reference: sides and points of a polygon; copies of slices of pairs. (printed by gen/harQa.py) -/
import Derived.Test.YtpkaoechbmbolaaGreatDoorHpJ
import Derived.Test.YtpkaoechbmbolaaGreatDoorHarS
namespace Go.Proofs.YtpkaoechbmbolaaGreatDoor
section
set_option linter.unusedSimpArgs false
set_option linter.unusedVariables false
open Go.RowKit

set_option maxRecDepth 100000 in
set_option maxHeartbeats 2000000 in
theorem cross_any0 (a0 a1 b0 b1 c0 c1 e0 e1 : Int) (w : World) :
    Calls Tryz.prog 20 #[.agg #[.int .i64 a0, .int .i64 a1], .agg #[.int .i64 b0, .int .i64 b1], .agg #[.int .i64 c0, .int .i64 c1], .agg #[.int .i64 e0, .int .i64 e1]] w fun e w' => e = .returned (.int .i64 (wrap64 (wrap64 (wrap64 (b0 - a0) * wrap64 (e1 - c1)) - wrap64 (wrap64 (b1 - a1) * wrap64 (e0 - c0))))) ∧ Below w.heap.size w w' := by
  go_enter Tryz.func20, Tryz.ntmps20
  go_upto_region 1 with fail
  obtain ⟨W1, hW1⟩ : ∃ v, v = World.alloc w (Obj.cells #[.int .i64 a0, .int .i64 a1] 63) := ⟨_, rfl⟩
  have kW1 : Below w.heap.size w W1 := by rw [hW1]; exact below_new _ _
  have iW1 : Blk W1 (w.heap.size) 63 [.int .i64 a0, .int .i64 a1] := by rw [hW1]; exact Blk.new _ _ _
  have sW1 : W1.heap.size = w.heap.size + 1 := by rw [hW1]; simp
  rw [← hW1]
  clear hW1
  obtain ⟨W2, hW2⟩ : ∃ v, v = World.alloc W1 (Obj.cells #[.int .i64 b0, .int .i64 b1] 63) := ⟨_, rfl⟩
  have kW2 : Below W1.heap.size W1 W2 := by rw [hW2]; exact below_new _ _
  have iW2 : Blk W2 (w.heap.size + 1) 63 [.int .i64 b0, .int .i64 b1] := by rw [hW2, ← sW1]; exact Blk.new _ _ _
  have sW2 : W2.heap.size = w.heap.size + 1 + 1 := by rw [hW2]; simp [sW1]
  rw [← hW2]
  clear hW2
  obtain ⟨W3, hW3⟩ : ∃ v, v = World.alloc W2 (Obj.cells #[.int .i64 c0, .int .i64 c1] 63) := ⟨_, rfl⟩
  have kW3 : Below W2.heap.size W2 W3 := by rw [hW3]; exact below_new _ _
  have iW3 : Blk W3 (w.heap.size + 1 + 1) 63 [.int .i64 c0, .int .i64 c1] := by rw [hW3, ← sW2]; exact Blk.new _ _ _
  have sW3 : W3.heap.size = w.heap.size + 1 + 1 + 1 := by rw [hW3]; simp [sW2]
  rw [← hW3]
  clear hW3
  obtain ⟨W4, hW4⟩ : ∃ v, v = World.alloc W3 (Obj.cells #[.int .i64 e0, .int .i64 e1] 63) := ⟨_, rfl⟩
  have kW4 : Below W3.heap.size W3 W4 := by rw [hW4]; exact below_new _ _
  have iW4 : Blk W4 (w.heap.size + 1 + 1 + 1) 63 [.int .i64 e0, .int .i64 e1] := by rw [hW4, ← sW3]; exact Blk.new _ _ _
  have sW4 : W4.heap.size = w.heap.size + 1 + 1 + 1 + 1 := by rw [hW4]; simp [sW3]
  rw [← hW4]
  clear hW4
  clear sW1 sW2 sW3 sW4
  have i1 := (((iW1.carry kW2).carry kW3).carry kW4)
  have i2 := ((iW2.carry kW3).carry kW4)
  have i3 := (iW3.carry kW4)
  have i4 := iW4
  have hB : Below w.heap.size w W4 := (bthen kW1 (bthen kW2 (bthen kW3 kW4)))
  clear iW1 kW1 iW2 kW2 iW3 kW3 iW4 kW4
  have d0 := i1.cell (j := 0) (v := .int .i64 a0) rfl
  have d1 := i1.cell (j := 1) (v := .int .i64 a1) rfl
  have d2 := i2.cell (j := 0) (v := .int .i64 b0) rfl
  have d3 := i2.cell (j := 1) (v := .int .i64 b1) rfl
  have d4 := i3.cell (j := 0) (v := .int .i64 c0) rfl
  have d5 := i3.cell (j := 1) (v := .int .i64 c1) rfl
  have d6 := i4.cell (j := 0) (v := .int .i64 e0) rfl
  have d7 := i4.cell (j := 1) (v := .int .i64 e1) rfl
  go_wp2_with fail
  go_ret
  exact ⟨rfl, hB⟩


def crossF (a b c d : Int × Int) : Int := wrap64 (wrap64 (wrap64 (b.1 - a.1) * wrap64 (d.2 - c.2)) - wrap64 (wrap64 (b.2 - a.2) * wrap64 (d.1 - c.1)))
theorem cross_any (a b c d : Int × Int) (w : World) : Calls Tryz.prog 20 #[.agg #[.int .i64 a.1, .int .i64 a.2], .agg #[.int .i64 b.1, .int .i64 b.2], .agg #[.int .i64 c.1, .int .i64 c.2], .agg #[.int .i64 d.1, .int .i64 d.2]] w fun e w' => e = .returned (.int .i64 (crossF a b c d)) ∧ Below w.heap.size w w' := cross_any0 a.1 a.2 b.1 b.2 c.1 c.2 d.1 d.2 w
/-- a point within the bounds. -/
def PtOk (p : Int × Int) : Prop := (-1000 ≤ p.1 ∧ p.1 ≤ 1000) ∧ (-1000 ≤ p.2 ∧ p.2 ≤ 1000)
theorem pointE_ok {p : Int × Int} (h : pointE p = 0) : PtOk p := by
  unfold pointE allE at h
  have hm := firstE_mapOk h
  exact ⟨withinE_zero (hm p.1 (by simp)), withinE_zero (hm p.2 (by simp))⟩
theorem diff2 {u v x y : Int} (hu : -2000 ≤ u ∧ u ≤ 2000) (hv : -2000 ≤ v ∧ v ≤ 2000) (hx : -2000 ≤ x ∧ x ≤ 2000) (hy : -2000 ≤ y ∧ y ≤ 2000) : wrap64 (wrap64 (u * v) - wrap64 (x * y)) = u * v - x * y := by
  have a := mulBd (A := 2000) (B := 2000) hu hv
  have b := mulBd (A := 2000) (B := 2000) hx hy
  rw [wrapSm (x := u * v) (by omega), wrapSm (x := x * y) (by omega), wrapSm (by omega)]
theorem cross_ex {a b c d : Int × Int} (ha : PtOk a) (hb : PtOk b) (hc : PtOk c) (hd : PtOk d) : crossF a b c d = (b.1 - a.1) * (d.2 - c.2) - (b.2 - a.2) * (d.1 - c.1) := by
  unfold PtOk at *
  unfold crossF
  rw [wrapSm (x := b.1 - a.1) (by omega), wrapSm (x := d.2 - c.2) (by omega), wrapSm (x := b.2 - a.2) (by omega), wrapSm (x := d.1 - c.1) (by omega)]
  exact diff2 (by omega) (by omega) (by omega) (by omega)
theorem side_ex {a b p : Int × Int} (ha : PtOk a) (hb : PtOk b) (hp : PtOk p) : sideE (a.1, a.2, b.1, b.2) p 1 = (b.1 - a.1) * (p.2 - a.2) - (b.2 - a.2) * (p.1 - a.1) := by
  unfold PtOk at *
  unfold sideE
  simp only [Int.one_mul]
  rw [wrapSm (x := a.2) (by omega), wrapSm (x := a.1) (by omega), wrapSm (x := b.1 - a.1) (by omega), wrapSm (x := p.2 - a.2) (by omega), wrapSm (x := b.2 - a.2) (by omega), wrapSm (x := p.1 - a.1) (by omega)]
  exact diff2 (by omega) (by omega) (by omega) (by omega)
theorem cross_side {a b p : Int × Int} (ha : PtOk a) (hb : PtOk b) (hp : PtOk p) : crossF a b a p = sideE (a.1, a.2, b.1, b.2) p 1 := by rw [cross_ex ha hb ha hp, side_ex ha hb hp]
theorem cross_turn {a b c : Int × Int} (ha : PtOk a) (hb : PtOk b) (hc : PtOk c) : crossF a b b c = sideE (a.1, a.2, b.1, b.2) c 1 := by
  rw [cross_ex ha hb hb hc, side_ex ha hb hc]
  obtain ⟨a0, a1⟩ := a
  obtain ⟨b0, b1⟩ := b
  obtain ⟨c0, c1⟩ := c
  simp only
  grind
set_option maxRecDepth 100000 in
set_option maxHeartbeats 1000000 in
theorem CheckPointR_any (p : Int × Int) (w : World) :
    Calls Tryz.prog 19 #[.agg #[.int .i64 p.1, .int .i64 p.2]] w fun e w' => e = .returned (.int .i64 (pointE p)) ∧ Below w.heap.size w w' := by
  obtain ⟨a, b⟩ := p
  have T1 := Lib.hid (fun W => CheckRange_any a (-1000) 1000 W)
  have T2 := Lib.hid (fun W => CheckRange_any b (-1000) 1000 W)
  have hpe : pointE (a, b) = firstE [withinE a (-1000) 1000, withinE b (-1000) 1000] := rfl
  rw [hpe]
  clear hpe
  generalize withinE a (-1000) 1000 = e1 at T1 ⊢
  generalize withinE b (-1000) 1000 = e2 at T2 ⊢
  have TF := Lib.hid (fun (u : Value) (W : World) (h : Ints W u [e1, e2]) => FirstR_any u [e1, e2] W (by simp) h)
  generalize firstE [e1, e2] = E at TF ⊢
  simp only
  go_enter Tryz.func19, Tryz.ntmps19
  go_upto_region 1 with fail
  obtain ⟨W1, hW1⟩ : ∃ v, v = World.alloc w (Obj.cells #[.int .i64 a, .int .i64 b] 63) := ⟨_, rfl⟩
  have kW1 : Below w.heap.size w W1 := by rw [hW1]; exact below_new _ _
  have iW1 : Blk W1 (w.heap.size) 63 [.int .i64 a, .int .i64 b] := by rw [hW1]; exact Blk.new _ _ _
  have sW1 : W1.heap.size = w.heap.size + 1 := by rw [hW1]; simp
  rw [← hW1]
  clear hW1
  have a0 := iW1.cell (j := 0) (v := .int .i64 a) rfl
  have a1 := iW1.cell (j := 1) (v := .int .i64 b) rfl
  refine wp_region_E 99 (by kernel_rfl) ?_
  obtain ⟨wz, hwz⟩ : ∃ v, v = W1.drew := ⟨_, rfl⟩
  rw [← hwz]
  have hlz : Below W1.heap.size W1 wz := by rw [hwz]; exact (Below.refl _ _).drew
  have hbz := bthen kW1 hlz
  have a0 := cellb a0 hlz
  have a1 := cellb a1 hlz
  clear hwz hlz
  refine wpAnyE_take (i := 0) (oi := { dst := some 3, op := Op.fieldAddr 63 (Operand.tmp 1) 0, type := 0, pos := "ref.go:323", after := #[], guard := none }) (v := ?_) rfl (by kernel_rfl) (by kernel_rfl) (by kernel_rfl) (by kernel_rfl) (fun _ _ _ h => h) (Or.inl ⟨by rfl, ?_⟩) ?_
  rotate_left
  · (intro w hE; have a0 := cellb a0 hE; have a1 := cellb a1 hE; (try dsimp only); go_simp); (try with_reducible rfl)
  try simp only [Act.put, List.setIfInBounds_toArray, List.set_cons_zero, List.set_cons_succ]
  refine wpAnyE_take (i := 1) (oi := { dst := some 4, op := Op.load 3 (Operand.tmp 3), type := 3, pos := "ref.go:323", after := #[{ on := 0, ground := Ground.data }], guard := none }) (v := ?_) rfl (by kernel_rfl) (by kernel_rfl) (by kernel_rfl) (by kernel_rfl) (fun _ _ _ h => h) (Or.inl ⟨by rfl, ?_⟩) ?_
  rotate_left
  · (intro w hE; have a0 := cellb a0 hE; have a1 := cellb a1 hE; (try dsimp only); go_simp); (try with_reducible rfl)
  try simp only [Act.put, List.setIfInBounds_toArray, List.set_cons_zero, List.set_cons_succ]
  refine wpAnyE_take (i := 3) (oi := { dst := some 6, op := Op.fieldAddr 63 (Operand.tmp 1) 1, type := 0, pos := "ref.go:323", after := #[], guard := none }) (v := ?_) rfl (by kernel_rfl) (by kernel_rfl) (by kernel_rfl) (by kernel_rfl) (fun _ _ _ h => h) (Or.inl ⟨by rfl, ?_⟩) ?_
  rotate_left
  · (intro w hE; have a0 := cellb a0 hE; have a1 := cellb a1 hE; (try dsimp only); go_simp); (try with_reducible rfl)
  try simp only [Act.put, List.setIfInBounds_toArray, List.set_cons_zero, List.set_cons_succ]
  refine wpAnyE_take (i := 4) (oi := { dst := some 7, op := Op.load 3 (Operand.tmp 6), type := 3, pos := "ref.go:323", after := #[{ on := 3, ground := Ground.data }], guard := none }) (v := ?_) rfl (by kernel_rfl) (by kernel_rfl) (by kernel_rfl) (by kernel_rfl) (fun _ _ _ h => h) (Or.inl ⟨by rfl, ?_⟩) ?_
  rotate_left
  · (intro w hE; have a0 := cellb a0 hE; have a1 := cellb a1 hE; (try dsimp only); go_simp); (try with_reducible rfl)
  try simp only [Act.put, List.setIfInBounds_toArray, List.set_cons_zero, List.set_cons_succ]
  refine wpAnyE_call (i := 2) (oi := { dst := some 5, op := Op.call { callee := Callee.value (Operand.func 18), args := #[Operand.tmp 4, Operand.const (Value.int IntKind.i64 (-1000)), Operand.const (Value.int IntKind.i64 1000)], argTypes := #[3, 3, 3] }, type := 3, pos := "ref.go:323", after := #[{ on := 1, ground := Ground.data }], guard := none }) (fun w hE => ofPure (T1.out w)) rfl (by kernel_rfl) (by kernel_rfl) (by kernel_rfl) (by kernel_rfl) (fun _ _ _ h => h) (by rfl) (fun w hE => by (try dsimp only); go_simp) ?_
  try simp only [Act.put, List.setIfInBounds_toArray, List.set_cons_zero, List.set_cons_succ]
  refine wpAnyE_call (i := 5) (oi := { dst := some 8, op := Op.call { callee := Callee.value (Operand.func 18), args := #[Operand.tmp 7, Operand.const (Value.int IntKind.i64 (-1000)), Operand.const (Value.int IntKind.i64 1000)], argTypes := #[3, 3, 3] }, type := 3, pos := "ref.go:323", after := #[{ on := 4, ground := Ground.data }, { on := 2, ground := Ground.chain }], guard := none }) (fun w hE => ofPure (T2.out w)) rfl (by kernel_rfl) (by kernel_rfl) (by kernel_rfl) (by kernel_rfl) (fun _ _ _ h => h) (by rfl) (fun w hE => by (try dsimp only); go_simp) ?_
  try simp only [Act.put, List.setIfInBounds_toArray, List.set_cons_zero, List.set_cons_succ]
  refine wpAnyE_one (i := 6) (o := { dst := some 9, op := Op.buildSlice 42 2 #[(0, Operand.tmp 5), (1, Operand.tmp 8)], type := 42, pos := "ref.go:323", after := #[{ on := 2, ground := Ground.data }, { on := 5, ground := Ground.data }], guard := none }) (by kernel_rfl) rfl (fun wy1 hE K hK => ?_)
  have a0 := cellb a0 hE
  have a1 := cellb a1 hE
  have hbz1 := bthen hbz hE
  clear hE
  go_simp
  obtain ⟨wx1, hwz⟩ : ∃ v, v = wy1.alloc (Obj.cells #[.int .i64 e1, .int .i64 e2] 3) := ⟨_, rfl⟩
  rw [← hwz]
  have hl : Below wy1.heap.size wy1 wx1 := by rw [hwz]; exact below_new _ _
  have hcz1 := bthen hbz1 hl
  have iN : BlkI wx1 wy1.heap.size 3 [e1, e2] := by rw [hwz]; exact Blk.new _ _ _
  generalize wy1.heap.size = G at iN ⊢
  have a0 := cellb a0 hl
  have a1 := cellb a1 hl
  clear hwz
  refine hK _ _ (fun _ => hl) ?_
  clear hK K hl
  try simp only [Act.put, List.setIfInBounds_toArray, List.set_cons_zero, List.set_cons_succ]
  refine wpAnyE_call (i := 7) (oi := { dst := some 10, op := Op.call { callee := Callee.value (Operand.func 16), args := #[Operand.tmp 9], argTypes := #[42] }, type := 3, pos := "ref.go:323", after := #[{ on := 6, ground := Ground.data }, { on := 5, ground := Ground.chain }], guard := none }) (fun w hE => ofPure (TF.out _ w ((BlkI.ints iN rfl).carry hE))) rfl (by kernel_rfl) (by kernel_rfl) (by kernel_rfl) (by kernel_rfl) (fun _ _ _ h => h) (by rfl) (fun w hE => by (try dsimp only); go_simp) ?_
  try simp only [Act.put, List.setIfInBounds_toArray, List.set_cons_zero, List.set_cons_succ]
  refine wpAnyE_take (i := 8) (oi := { dst := some 2, op := Op.assign (Operand.tmp 10), type := 3, pos := "ref.go:323", after := #[{ on := 7, ground := Ground.data }, { on := 7, ground := Ground.chain }, { on := 0, ground := Ground.phase }, { on := 1, ground := Ground.phase }, { on := 2, ground := Ground.phase }, { on := 3, ground := Ground.phase }, { on := 4, ground := Ground.phase }, { on := 5, ground := Ground.phase }, { on := 6, ground := Ground.phase }, { on := 7, ground := Ground.phase }], guard := none }) (v := ?_) rfl (by kernel_rfl) (by kernel_rfl) (by kernel_rfl) (by kernel_rfl) (fun _ _ _ h => h) (Or.inl ⟨by rfl, ?_⟩) ?_
  rotate_left
  · (intro w hE; have a0 := cellb a0 hE; have a1 := cellb a1 hE; (try dsimp only); go_simp); (try with_reducible rfl)
  try simp only [Act.put, List.setIfInBounds_toArray, List.set_cons_zero, List.set_cons_succ]
  refine wpAnyE_done (by kernel_rfl) (fun wy2 hE => ?_) _
  have hbz2 := bthen hcz1 hE
  have a0 := cellb a0 hE
  have a1 := cellb a1 hE
  clear hE
  have hB := hbz2
  go_wp2_with fail
  go_ret
  exact ⟨rfl, hB⟩
theorem Pairs.src {P : Program} {w : World} {v : Value} {l : List (Int × Int)} (h : Pairs w v l) {tx e : TypeId} (hk : P.underlying tx = some (.slice e)) (h0 : 0 < l.length) : Src P 2 tx v l.length ((flat2 l).map (Value.int .i64)) w := by
  obtain ⟨b, off, cap, rfl, hcs⟩ := h.head h0
  exact Src.ofSlice w hk _ _ _ _ (by rw [List.length_map, flat2_length]) (fun j u hj => flat2_src hcs j u hj) (by intro u hu; simp at hu; obtain ⟨x, _, rfl⟩ := hu; rfl)
theorem Pairs.of_own {w : World} {base : Nat} {e : TypeId} {v : Value} {l : List (Int × Int)} (h : w.ownsRow base e 2 v l.length ((flat2 l).map (Value.int .i64))) : Pairs w v l := by
  rcases h.2 with ⟨hv, hn⟩ | ⟨g, cap, cur, hv, _, hg, hc, _, hcs, ht⟩
  · exact ⟨none, 0, by rw [hv, hn], by omega, fun h0 => by omega⟩
  · refine ⟨some ⟨g, 0, none⟩, cap, hv, hc, fun _ => ⟨g, 0, rfl, fun j x hj => ?_⟩⟩
    have hcell : ∀ (k : Nat) (u : Int), (flat2 l)[k]? = some u → w.cell? ⟨g, k, none⟩ = some (.int .i64 u) := fun k u hk => by
      have hlt : k < l.length * 2 := by
        have h1 := (List.getElem?_eq_some_iff.1 hk).1
        rw [flat2_length] at h1; exact h1
      have e := congrArg (fun x : List Value => x[k]?) ht
      simp only [List.getElem?_take] at e
      rw [if_pos hlt, List.getElem?_map, hk] at e
      have : cur[k]? = some (.int .i64 u) := by rw [← Array.getElem?_toList]; exact e
      simp [World.cell?, hg, this]
    obtain ⟨h0, h1⟩ := flat2_get l j x hj
    rw [Nat.zero_add]
    exact ⟨hcell _ _ h0, hcell _ _ h1⟩
theorem Pairs.nil' (w : World) (a : Option Addr) (c : Nat) : Pairs w (.slice a 0 c) [] := ⟨a, c, rfl, by simp, fun h => by simp at h⟩
theorem wpList_append_empty {P : Program} {ops : Array Oper} {rest : List Oper} {o : Oper} {a : Act} {w : World} {Q : Exit → Act → World → Prop} (hgd : o.guard = none) (s x : Operand) (t tx e e' : TypeId)
    (ho : o.op = .call { callee := .builtin .append, args := #[s, x], argTypes := #[t, tx] })
    (i : TypeInfo) (z : Value) (ht : P.underlying t = some (.slice e)) (htx : P.underlying tx = some (.slice e')) (hi : P.info? e = some i) (hz : i.zero = some z)
    (g og : Nat) (hs : a.eval s = .slice (some ⟨g, og, none⟩) 0 0) (xa : Option Addr) (c : Nat) (hx : a.eval x = .slice xa 0 c)
    (h : wpList P ops Q rest (a.put o.dst (.slice (some ⟨g, og, none⟩) 0 0)) w) : wpList P ops Q (o :: rest) a w := by
  refine wpList_plain hgd fun K hK => ?_
  have hr := run_append_empty (P := P) w t tx o.type e e' i z ht htx hi hz g og xa c
  unfold Oper.wp execOp
  simp only [ho, resolve, invoke, builtin, Sem.run_bind, Sem.run_pure, Result.andThen_ok, List.map_toArray, List.map_cons, List.map_nil, hs, hx, hr]
  exact hK _ _ h
theorem Tryz.infoGauss3 : (Tryz.prog.info? 63).map (fun i => (i.zero, i.size, i.bytes)) = some (some (.agg #[.int .i64 0, .int .i64 0]), 2, 16) := by kernel_rfl
theorem Tryz.undGausses : Tryz.prog.underlying 25 = some (.slice 63) := by kernel_rfl
end

section
set_option linter.unusedSimpArgs false
set_option linter.unusedVariables false
open Go.RowKit

theorem any_take_cons {α : Type} {g : α → Bool} {l : List α} {k : Nat} {x : α} (hk : l[k]? = some x) (hx : g x = true) : l.any g = true :=
  List.any_eq_true.2 ⟨x, List.mem_of_getElem? hk, hx⟩
set_option maxRecDepth 100000 in
set_option maxHeartbeats 8000000 in
theorem CheckPolygonR_any (v : Value) (l : List (Int × Int)) (w : World) (hv : Pairs w v l) (hl : l.length ≤ 1000000) :
    Calls Tryz.prog 7 #[v] w fun e w' => e = .returned (.int .i64 (polE l)) ∧ Below w.heap.size w w' := by
  have HL := Lib.hid hl
  obtain ⟨n, hn⟩ : ∃ n, n = l.length := ⟨_, rfl⟩
  obtain ⟨a, cp, rfl, _, hcs0⟩ := id hv
  obtain ⟨E, hE⟩ : ∃ E, E = polE l := ⟨_, rfl⟩
  rw [← hE]
  rw [polE, polN] at hE
  rw [← hn] at hcs0 hl hE ⊢
  have hcs : ∀ k : Nat, k < n → ∃ b off x, a = some ⟨b, off, none⟩ ∧ l[k]? = some x ∧ w.cell? ⟨b, off + k * 2, none⟩ = some (.int .i64 x.1) ∧ w.cell? ⟨b, off + k * 2 + 1, none⟩ = some (.int .i64 x.2) := fun k hk => by
    obtain ⟨b, off, rfl, hc⟩ := hcs0 (by omega)
    have e1 := hc k (l[k]'(by omega)) (List.getElem?_eq_getElem (by omega))
    exact ⟨b, off, _, rfl, List.getElem?_eq_getElem (by omega), e1⟩
  have HC := Lib.hid hcs
  have HN := Lib.hid hn
  have T1 := Lib.hid (fun W => WhenR_any (decide ((n : Int) < 3)) 16 W)
  have T2 := Lib.hid (fun W => WhenR_any (decide ((8 : Int) < n)) 5 W)
  generalize whenE (decide ((n : Int) < 3)) 16 = e1 at T1 hE
  generalize whenE (decide ((8 : Int) < n)) 5 = e2 at T2 hE
  have TF := Lib.hid (fun (u : Value) (W : World) (h : Ints W u [e1, e2]) => FirstR_any u [e1, e2] W (by simp) h)
  generalize firstE [e1, e2] = eN at TF hE
  have HE := Lib.hid hE
  clear hv hcs0 hcs hn hE
  go_enter Tryz.func7, Tryz.ntmps7
  go_wp2_with fail
  refine (T1.out w).mono ?_
  rintro e w' ⟨rfl, rfl⟩
  go_wp2_with fail
  refine (T2.out w).mono ?_
  rintro e w' ⟨rfl, rfl⟩
  go_wp2_with fail
  obtain ⟨W1, hW1⟩ : ∃ v, v = World.alloc w (Obj.cells #[.int .i64 e1, .int .i64 e2] 3) := ⟨_, rfl⟩
  have kW1 : Below w.heap.size w W1 := by rw [hW1]; exact below_new _ _
  have iW1 : Blk W1 (w.heap.size) 3 [.int .i64 e1, .int .i64 e2] := by rw [hW1]; exact Blk.new _ _ _
  have sW1 : W1.heap.size = w.heap.size + 1 := by rw [hW1]; simp
  rw [← hW1]
  clear hW1
  refine (TF.out _ W1 (BlkI.ints (l := [e1, e2]) iW1 rfl)).mono ?_
  rintro e w' ⟨rfl, rfl⟩
  have hB := kW1
  clear kW1 iW1 sW1 T1 T2 TF
  by_cases he : eN = 0
  · subst he
    have hE := HE.out
    rw [orE, if_pos rfl] at hE
    have HE2 := Lib.hid hE
    clear HE hE
    go_wp2_with fail
    go_loopw [4] (fun i wr => ∃ k : Nat, k ≤ n ∧ i = .int .i64 k ∧ firstE ((l.map pointE).take k) = 0 ∧ Below w.heap.size w wr) (fun i _ => n - (intOf i).toNat)
    case atStart => exact ⟨0, by omega, rfl, rfl, hB⟩
    case round =>
      clear hB
      obtain ⟨k, hk, rfl, hf, hB⟩ := hrel
      by_cases hlt : k < n
      · obtain ⟨b, off, x, rfl, hx, c0, c1⟩ := HC.out k hlt
        have c0 := cellb c0 hB
        have c1 := cellb c1 hB
        have hlm : k < (l.map pointE).length := by rw [List.length_map, ← HN.out]; exact hlt
        have hs := firstE_take_succ (l.map pointE) k hlm hf
        have hxv : (l.map pointE)[k]?.getD 0 = pointE x := by rw [List.getElem?_map, hx]; rfl
        rw [hxv] at hs
        have TP := Lib.hid (fun W => CheckPointR_any x W)
        generalize pointE x = px at hs TP
        obtain ⟨x0, x1⟩ := x
        simp only at c0 c1 TP
        have HS := Lib.hid hs
        have d1 : (k : Int) < n := by omega
        clear hx hf hs hxv
        go_wp2_with fail
        refine (TP.out wr).mono ?_
        rintro e w2 ⟨rfl, hb⟩
        replace hB := bthen hB hb
        clear hb c0 c1
        by_cases hz : px = 0
        · go_wp2
          go_roundw
          case rel => exact ⟨k + 1, by omega, by go_num, by rw [HS.out]; exact hz, hB⟩
          case measure => simp [intOf]; omega
        · have hE3 : E = px := by
            have h9 := firstE_of_take (l.map pointE) (k + 1) (by rw [HS.out]; exact hz)
            rw [HE2.out, h9, HS.out, orE, if_neg hz]
          have HE3 := Lib.hid hE3
          have z : (px == 0) = false := by rw [beq_eq_false_iff_ne]; exact hz
          clear hE3
          go_wp2
          go_ret
          exact ⟨ret_int HE3.out.symm, hB⟩
      · obtain rfl : k = n := by omega
        have hf2 : firstE (l.map pointE) = 0 := by rw [List.take_of_length_le (by rw [List.length_map, ← HN.out]; exact Nat.le_refl _)] at hf; exact hf
        have hok : ∀ x ∈ l, PtOk x := fun x hx => pointE_ok (firstE_mapOk hf2 x hx)
        have HOK := Lib.hid hok
        have hE := HE2.out
        rw [hf2, orE, if_pos rfl] at hE
        have HE3 := Lib.hid hE
        clear hE hf hf2 hok HE2
        have d0 : ¬ (k : Int) < k := by omega
        go_wp2_with fail
        go_loopw [6] (fun i wr => ∃ q : Nat, q ≤ k ∧ i = .int .i64 q ∧ (∀ j, j < q → polBad l j = false) ∧ Below w.heap.size w wr) (fun i _ => k - (intOf i).toNat)
        case atStart => exact ⟨0, by omega, rfl, fun j hj => by omega, hB⟩
        case round =>
          clear hB
          obtain ⟨q, hq, rfl, hbad, hB⟩ := hrel
          have HBAD := Lib.hid hbad
          clear hbad
          by_cases hlt : q < k
          · obtain ⟨b, off, A, rfl, hA, c0, c1⟩ := HC.out q hlt
            obtain ⟨b', off', B, hbb, hB1, c2, c3⟩ := HC.out ((q + 1) % k) (Nat.mod_lt _ (by omega))
            obtain ⟨rfl, rfl⟩ : b' = b ∧ off' = off := by simp at hbb; exact ⟨hbb.1.symm, hbb.2.symm⟩
            obtain ⟨b'', off'', C, hbb2, hC1, c4, c5⟩ := HC.out ((q + 2) % k) (Nat.mod_lt _ (by omega))
            obtain ⟨rfl, rfl⟩ : b'' = b' ∧ off'' = off' := by simp at hbb2; exact ⟨hbb2.1.symm, hbb2.2.symm⟩
            have oA := HOK.out A (List.mem_of_getElem? hA)
            have oB := HOK.out B (List.mem_of_getElem? hB1)
            have oC := HOK.out C (List.mem_of_getElem? hC1)
            have hek : edgeK l q = (A.1, A.2, B.1, B.2) := by
              rw [edgeK, ← HN.out, hA, hB1]; rfl
            have hpb : polBad l q = (nposB (sideE (A.1, A.2, B.1, B.2) C 1) || l.any (fun p => negB (sideE (A.1, A.2, B.1, B.2) p 1))) := by
              rw [polBad, ← HN.out, hek, hC1]; rfl
            rw [← cross_turn oA oB oC] at hpb
            have HPB := Lib.hid hpb
            have TX := Lib.hid (fun W => cross_any A B B C W)
            have hcr : ∀ p ∈ l, crossF A B A p = sideE (A.1, A.2, B.1, B.2) p 1 := fun p hp => cross_side oA oB (HOK.out p hp)
            have HCR := Lib.hid hcr
            have hcc : ∀ p, ∀ W, Calls Tryz.prog 20 #[.agg #[.int .i64 A.1, .int .i64 A.2], .agg #[.int .i64 B.1, .int .i64 B.2], .agg #[.int .i64 A.1, .int .i64 A.2], .agg #[.int .i64 p.1, .int .i64 p.2]] W fun e w' => e = .returned (.int .i64 (crossF A B A p)) ∧ Below W.heap.size W w' := fun p W => cross_any A B A p W
            have HCC := Lib.hid hcc
            generalize hX : crossF A B B C = X at TX HPB
            have c0 := cellb c0 hB
            have c1 := cellb c1 hB
            have c2 := cellb c2 hB
            have c3 := cellb c3 hB
            have c4 := cellb c4 hB
            have c5 := cellb c5 hB
            have r2 : ((q : Int) + 1).tmod (k : Int) = (((q + 1) % k : Nat) : Int) := rfl
            have r4 : ((q : Int) + 2).tmod (k : Int) = (((q + 2) % k : Nat) : Int) := rfl
            have r3 : (((q + 1) % k : Nat) : Int) < (k : Int) := by have := Nat.mod_lt (q + 1) (show 0 < k by omega); omega
            have r5 : (((q + 2) % k : Nat) : Int) < (k : Int) := by have := Nat.mod_lt (q + 2) (show 0 < k by omega); omega
            clear hpb hcr hcc hX hA hB1 hC1 hek oA oB oC hbb hbb2
            generalize (q + 1) % k = m at c2 c3 r2 r3
            generalize (q + 2) % k = m2 at c4 c5 r4 r5
            obtain ⟨A0, A1⟩ := A
            obtain ⟨B0, B1⟩ := B
            obtain ⟨C0, C1⟩ := C
            simp only at c0 c1 c2 c3 c4 c5 TX HCC HCR HPB
            have r0 : k ≠ 0 := by omega
            have r1 : IntKind.i64.wrap ((q : Int) + 1) = (q : Int) + 1 := IntWalk.i64_in _ (by omega)
            have r6 : IntKind.i64.wrap ((q : Int) + 2) = (q : Int) + 2 := IntWalk.i64_in _ (by omega)
            have r7 : (0 : Int) ≤ (m : Int) := by omega
            have r8 : (0 : Int) ≤ (m2 : Int) := by omega
            have d1 : (q : Int) < (k : Int) := by omega
            go_upto_region 13 with fail
            go_cut [7, 8, 9] from 44 to 63 (fun u7 u8 u9 wn => ∃ b7 b8 b9 : Nat, u7 = .pointer (some ⟨b7, 0, none⟩) ∧ u8 = .pointer (some ⟨b8, 0, none⟩) ∧ u9 = .pointer (some ⟨b9, 0, none⟩) ∧ BlkI wn b7 63 [A0, A1] ∧ BlkI wn b8 63 [B0, B1] ∧ BlkI wn b9 63 [C0, C1] ∧ Below wr.heap.size wr wn)
            case first =>
              refine wp_region_held_drew (S := (fun W => W.cell? ⟨b'', off'' + q * 2, none⟩ = some (.int .i64 A0) ∧ W.cell? ⟨b'', off'' + q * 2 + 1, none⟩ = some (.int .i64 A1) ∧ W.cell? ⟨b'', off'' + m * 2, none⟩ = some (.int .i64 B0) ∧ W.cell? ⟨b'', off'' + m * 2 + 1, none⟩ = some (.int .i64 B1) ∧ W.cell? ⟨b'', off'' + m2 * 2, none⟩ = some (.int .i64 C0) ∧ W.cell? ⟨b'', off'' + m2 * 2 + 1, none⟩ = some (.int .i64 C1))) (by kernel_rfl) ⟨cellb c0 (Below.refl _ _).drew, cellb c1 (Below.refl _ _).drew, cellb c2 (Below.refl _ _).drew, cellb c3 (Below.refl _ _).drew, cellb c4 (Below.refl _ _).drew, cellb c5 (Below.refl _ _).drew⟩ (fun hHeld0 => ?_)
              obtain ⟨wzd, hwz⟩ : ∃ v, v = wr.drew := ⟨_, rfl⟩
              rw [← hwz] at hHeld0 ⊢
              have hbzd : Below wr.heap.size wr wzd := by rw [hwz]; exact (Below.refl _ _).drew
              have hlzd : Below wr.heap.size wr wzd := by rw [hwz]; exact (Below.refl _ _).drew
              clear hwz hlzd
              refine wpAnyH_take (i := 0) (oi := { dst := some 44, op := Op.move (Operand.tmp 0), type := 25, pos := "ref.go:337", after := #[], guard := none }) (v := ?_) rfl (by kernel_rfl) (by kernel_rfl) (by kernel_rfl) (fun _ _ _ h => h) (Or.inl ⟨by rfl, ?_⟩) (by assumption) ?_
              rotate_left
              · (intro w hSw; (try dsimp only at hSw); go_simp); (try with_reducible rfl)
              try simp only [Act.put, List.setIfInBounds_toArray, List.set_cons_zero, List.set_cons_succ]
              refine wpAnyH_take (i := 1) (oi := { dst := some 45, op := Op.move (Operand.tmp 6), type := 3, pos := "ref.go:337", after := #[], guard := none }) (v := ?_) rfl (by kernel_rfl) (by kernel_rfl) (by kernel_rfl) (fun _ _ _ h => h) (Or.inl ⟨by rfl, ?_⟩) (by assumption) ?_
              rotate_left
              · (intro w hSw; (try dsimp only at hSw); go_simp); (try with_reducible rfl)
              try simp only [Act.put, List.setIfInBounds_toArray, List.set_cons_zero, List.set_cons_succ]
              refine wpAnyH_take (i := 2) (oi := { dst := some 46, op := Op.indexAddr 25 (Operand.tmp 44) (Operand.tmp 45), type := 0, pos := "ref.go:337", after := #[{ on := 0, ground := Ground.data }, { on := 1, ground := Ground.data }], guard := none }) (v := ?_) rfl (by kernel_rfl) (by kernel_rfl) (by kernel_rfl) (fun _ _ _ h => h) (Or.inl ⟨by rfl, ?_⟩) (by assumption) ?_
              rotate_left
              · (intro w hSw; (try dsimp only at hSw); go_simp); (try with_reducible rfl)
              try simp only [Act.put, List.setIfInBounds_toArray, List.set_cons_zero, List.set_cons_succ]
              refine wpAnyH_take (i := 3) (oi := { dst := some 47, op := Op.load 63 (Operand.tmp 46), type := 63, pos := "ref.go:337", after := #[{ on := 2, ground := Ground.data }], guard := none }) (v := ?_) rfl (by kernel_rfl) (by kernel_rfl) (by kernel_rfl) (fun _ _ _ h => h) (Or.inl ⟨by rfl, ?_⟩) (by assumption) ?_
              rotate_left
              · (intro w hSw; (try dsimp only at hSw); go_simp); (try with_reducible rfl)
              try simp only [Act.put, List.setIfInBounds_toArray, List.set_cons_zero, List.set_cons_succ]
              refine wpAnyH_take (i := 4) (oi := { dst := some 48, op := Op.move (Operand.tmp 0), type := 25, pos := "ref.go:337", after := #[{ on := 23, ground := Ground.gcOnly Departure.lateStores }], guard := none }) (v := ?_) rfl (by kernel_rfl) (by kernel_rfl) (by kernel_rfl) (fun _ _ _ h => h) (Or.inl ⟨by rfl, ?_⟩) (by assumption) ?_
              rotate_left
              · (intro w hSw; (try dsimp only at hSw); go_simp); (try with_reducible rfl)
              try simp only [Act.put, List.setIfInBounds_toArray, List.set_cons_zero, List.set_cons_succ]
              refine wpAnyH_take (i := 5) (oi := { dst := some 49, op := Op.move (Operand.tmp 6), type := 3, pos := "ref.go:337", after := #[{ on := 23, ground := Ground.gcOnly Departure.lateStores }], guard := none }) (v := ?_) rfl (by kernel_rfl) (by kernel_rfl) (by kernel_rfl) (fun _ _ _ h => h) (Or.inl ⟨by rfl, ?_⟩) (by assumption) ?_
              rotate_left
              · (intro w hSw; (try dsimp only at hSw); go_simp); (try with_reducible rfl)
              try simp only [Act.put, List.setIfInBounds_toArray, List.set_cons_zero, List.set_cons_succ]
              refine wpAnyH_take (i := 6) (oi := { dst := some 50, op := Op.binOp BinOp.add 3 (Operand.tmp 49) (Operand.const (Value.int IntKind.i64 1)) 3, type := 3, pos := "ref.go:337", after := #[{ on := 5, ground := Ground.data }, { on := 23, ground := Ground.gcOnly Departure.lateStores }], guard := none }) (v := ?_) rfl (by kernel_rfl) (by kernel_rfl) (by kernel_rfl) (fun _ _ _ h => h) (Or.inl ⟨by rfl, ?_⟩) (by assumption) ?_
              rotate_left
              · (intro w hSw; (try dsimp only at hSw); go_simp); (try with_reducible rfl)
              try simp only [Act.put, List.setIfInBounds_toArray, List.set_cons_zero, List.set_cons_succ]
              refine wpAnyH_take (i := 7) (oi := { dst := some 51, op := Op.move (Operand.tmp 0), type := 25, pos := "ref.go:337", after := #[], guard := none }) (v := ?_) rfl (by kernel_rfl) (by kernel_rfl) (by kernel_rfl) (fun _ _ _ h => h) (Or.inl ⟨by rfl, ?_⟩) (by assumption) ?_
              rotate_left
              · (intro w hSw; (try dsimp only at hSw); go_simp); (try with_reducible rfl)
              try simp only [Act.put, List.setIfInBounds_toArray, List.set_cons_zero, List.set_cons_succ]
              refine wpAnyH_take (i := 8) (oi := { dst := some 52, op := Op.call { callee := Callee.builtin Builtin.len, args := #[Operand.tmp 51], argTypes := #[25] }, type := 3, pos := "ref.go:337", after := #[{ on := 7, ground := Ground.data }], guard := none }) (v := ?_) rfl (by kernel_rfl) (by kernel_rfl) (by kernel_rfl) (fun _ _ _ h => h) (Or.inl ⟨by rfl, ?_⟩) (by assumption) ?_
              rotate_left
              · (intro w hSw; (try dsimp only at hSw); go_simp); (try with_reducible rfl)
              try simp only [Act.put, List.setIfInBounds_toArray, List.set_cons_zero, List.set_cons_succ]
              refine wpAnyH_take (i := 9) (oi := { dst := some 53, op := Op.binOp BinOp.rem 3 (Operand.tmp 50) (Operand.tmp 52) 3, type := 3, pos := "ref.go:337", after := #[{ on := 6, ground := Ground.data }, { on := 8, ground := Ground.data }, { on := 23, ground := Ground.gcOnly Departure.lateStores }], guard := none }) (v := ?_) rfl (by kernel_rfl) (by kernel_rfl) (by kernel_rfl) (fun _ _ _ h => h) (Or.inl ⟨by rfl, ?_⟩) (by assumption) ?_
              rotate_left
              · (intro w hSw; (try dsimp only at hSw); go_simp); (try with_reducible rfl)
              try simp only [Act.put, List.setIfInBounds_toArray, List.set_cons_zero, List.set_cons_succ]
              refine wpAnyH_take (i := 10) (oi := { dst := some 54, op := Op.indexAddr 25 (Operand.tmp 48) (Operand.tmp 53), type := 0, pos := "ref.go:337", after := #[{ on := 4, ground := Ground.data }, { on := 9, ground := Ground.data }, { on := 23, ground := Ground.gcOnly Departure.lateStores }], guard := none }) (v := ?_) rfl (by kernel_rfl) (by kernel_rfl) (by kernel_rfl) (fun _ _ _ h => h) (Or.inl ⟨by rfl, ?_⟩) (by assumption) ?_
              rotate_left
              · (intro w hSw; (try dsimp only at hSw); go_simp); (try with_reducible rfl)
              try simp only [Act.put, List.setIfInBounds_toArray, List.set_cons_zero, List.set_cons_succ]
              refine wpAnyH_take (i := 11) (oi := { dst := some 55, op := Op.load 63 (Operand.tmp 54), type := 63, pos := "ref.go:337", after := #[{ on := 10, ground := Ground.data }, { on := 23, ground := Ground.gcOnly Departure.lateStores }], guard := none }) (v := ?_) rfl (by kernel_rfl) (by kernel_rfl) (by kernel_rfl) (fun _ _ _ h => h) (Or.inl ⟨by rfl, ?_⟩) (by assumption) ?_
              rotate_left
              · (intro w hSw; (try dsimp only at hSw); go_simp); (try with_reducible rfl)
              try simp only [Act.put, List.setIfInBounds_toArray, List.set_cons_zero, List.set_cons_succ]
              refine wpAnyH_take (i := 12) (oi := { dst := some 56, op := Op.move (Operand.tmp 0), type := 25, pos := "ref.go:337", after := #[{ on := 24, ground := Ground.gcOnly Departure.lateStores }], guard := none }) (v := ?_) rfl (by kernel_rfl) (by kernel_rfl) (by kernel_rfl) (fun _ _ _ h => h) (Or.inl ⟨by rfl, ?_⟩) (by assumption) ?_
              rotate_left
              · (intro w hSw; (try dsimp only at hSw); go_simp); (try with_reducible rfl)
              try simp only [Act.put, List.setIfInBounds_toArray, List.set_cons_zero, List.set_cons_succ]
              refine wpAnyH_take (i := 13) (oi := { dst := some 57, op := Op.move (Operand.tmp 6), type := 3, pos := "ref.go:337", after := #[{ on := 24, ground := Ground.gcOnly Departure.lateStores }], guard := none }) (v := ?_) rfl (by kernel_rfl) (by kernel_rfl) (by kernel_rfl) (fun _ _ _ h => h) (Or.inl ⟨by rfl, ?_⟩) (by assumption) ?_
              rotate_left
              · (intro w hSw; (try dsimp only at hSw); go_simp); (try with_reducible rfl)
              try simp only [Act.put, List.setIfInBounds_toArray, List.set_cons_zero, List.set_cons_succ]
              refine wpAnyH_take (i := 14) (oi := { dst := some 58, op := Op.binOp BinOp.add 3 (Operand.tmp 57) (Operand.const (Value.int IntKind.i64 2)) 3, type := 3, pos := "ref.go:337", after := #[{ on := 13, ground := Ground.data }, { on := 24, ground := Ground.gcOnly Departure.lateStores }], guard := none }) (v := ?_) rfl (by kernel_rfl) (by kernel_rfl) (by kernel_rfl) (fun _ _ _ h => h) (Or.inl ⟨by rfl, ?_⟩) (by assumption) ?_
              rotate_left
              · (intro w hSw; (try dsimp only at hSw); go_simp); (try with_reducible rfl)
              try simp only [Act.put, List.setIfInBounds_toArray, List.set_cons_zero, List.set_cons_succ]
              refine wpAnyH_take (i := 15) (oi := { dst := some 59, op := Op.move (Operand.tmp 0), type := 25, pos := "ref.go:337", after := #[], guard := none }) (v := ?_) rfl (by kernel_rfl) (by kernel_rfl) (by kernel_rfl) (fun _ _ _ h => h) (Or.inl ⟨by rfl, ?_⟩) (by assumption) ?_
              rotate_left
              · (intro w hSw; (try dsimp only at hSw); go_simp); (try with_reducible rfl)
              try simp only [Act.put, List.setIfInBounds_toArray, List.set_cons_zero, List.set_cons_succ]
              refine wpAnyH_take (i := 16) (oi := { dst := some 60, op := Op.call { callee := Callee.builtin Builtin.len, args := #[Operand.tmp 59], argTypes := #[25] }, type := 3, pos := "ref.go:337", after := #[{ on := 15, ground := Ground.data }], guard := none }) (v := ?_) rfl (by kernel_rfl) (by kernel_rfl) (by kernel_rfl) (fun _ _ _ h => h) (Or.inl ⟨by rfl, ?_⟩) (by assumption) ?_
              rotate_left
              · (intro w hSw; (try dsimp only at hSw); go_simp); (try with_reducible rfl)
              try simp only [Act.put, List.setIfInBounds_toArray, List.set_cons_zero, List.set_cons_succ]
              refine wpAnyH_take (i := 17) (oi := { dst := some 61, op := Op.binOp BinOp.rem 3 (Operand.tmp 58) (Operand.tmp 60) 3, type := 3, pos := "ref.go:337", after := #[{ on := 14, ground := Ground.data }, { on := 16, ground := Ground.data }, { on := 24, ground := Ground.gcOnly Departure.lateStores }], guard := none }) (v := ?_) rfl (by kernel_rfl) (by kernel_rfl) (by kernel_rfl) (fun _ _ _ h => h) (Or.inl ⟨by rfl, ?_⟩) (by assumption) ?_
              rotate_left
              · (intro w hSw; (try dsimp only at hSw); go_simp); (try with_reducible rfl)
              try simp only [Act.put, List.setIfInBounds_toArray, List.set_cons_zero, List.set_cons_succ]
              refine wpAnyH_take (i := 18) (oi := { dst := some 62, op := Op.indexAddr 25 (Operand.tmp 56) (Operand.tmp 61), type := 0, pos := "ref.go:337", after := #[{ on := 12, ground := Ground.data }, { on := 17, ground := Ground.data }, { on := 24, ground := Ground.gcOnly Departure.lateStores }], guard := none }) (v := ?_) rfl (by kernel_rfl) (by kernel_rfl) (by kernel_rfl) (fun _ _ _ h => h) (Or.inl ⟨by rfl, ?_⟩) (by assumption) ?_
              rotate_left
              · (intro w hSw; (try dsimp only at hSw); go_simp); (try with_reducible rfl)
              try simp only [Act.put, List.setIfInBounds_toArray, List.set_cons_zero, List.set_cons_succ]
              refine wpAnyH_take (i := 19) (oi := { dst := some 63, op := Op.load 63 (Operand.tmp 62), type := 63, pos := "ref.go:337", after := #[{ on := 18, ground := Ground.data }, { on := 24, ground := Ground.gcOnly Departure.lateStores }], guard := none }) (v := ?_) rfl (by kernel_rfl) (by kernel_rfl) (by kernel_rfl) (fun _ _ _ h => h) (Or.inl ⟨by rfl, ?_⟩) (by assumption) ?_
              rotate_left
              · (intro w hSw; (try dsimp only at hSw); go_simp); (try with_reducible rfl)
              try simp only [Act.put, List.setIfInBounds_toArray, List.set_cons_zero, List.set_cons_succ]
              refine wpAnyH_ready (rs := [20, 21, 22]) (by kernel_rfl) (by simp) ?_
              refine (AllReadyH.cons (o := { dst := some 7, op := Op.alloc 63, type := 0, pos := "ref.go:337", after := #[], guard := none }) rfl (fun K hK => ?_) (AllReadyH.cons (o := { dst := some 8, op := Op.alloc 63, type := 0, pos := "ref.go:337", after := #[], guard := none }) rfl (fun K hK => ?_) (AllReadyH.cons (o := { dst := some 9, op := Op.alloc 63, type := 0, pos := "ref.go:337", after := #[], guard := none }) rfl (fun K hK => ?_) AllReadyH.nil)))
              · go_simp
                obtain ⟨wz20, hwz⟩ : ∃ v, v = wzd.alloc (Obj.cells #[.int .i64 0, .int .i64 0] 63) := ⟨_, rfl⟩
                rw [← hwz]
                have hl : Below wzd.heap.size wzd wz20 := by rw [hwz]; exact below_new _ _
                have hbz20 := bthen hbzd hl
                obtain ⟨G20, hG⟩ : ∃ G, G = wzd.heap.size := ⟨_, rfl⟩
                have i20 : BlkI wz20 G20 63 [0, 0] := by rw [hwz, hG]; exact Blk.new _ _ _
                have g20 : wr.heap.size ≤ G20 := by rw [hG]; exact (hbzd).size
                try (have q2120 : G21 < G20 := by rw [hG]; exact Blk.lt i21)
                try (have q2220 : G22 < G20 := by rw [hG]; exact Blk.lt i22)
                rw [← hG]
                clear hG
                clear hwz
                clear hl
                refine hK.out _ _ ⟨cellb c0 hbz20, cellb c1 hbz20, cellb c2 hbz20, cellb c3 hbz20, cellb c4 hbz20, cellb c5 hbz20⟩ (fun hHeld1 => ?_)
                clear hK K hHeld0
                try simp only [Act.put, List.setIfInBounds_toArray, List.set_cons_zero, List.set_cons_succ]
                refine wpAnyH_ready (rs := [21, 22]) (by kernel_rfl) (by simp) ?_
                refine (AllReadyH.cons (o := { dst := some 8, op := Op.alloc 63, type := 0, pos := "ref.go:337", after := #[], guard := none }) rfl (fun K hK => ?_) (AllReadyH.cons (o := { dst := some 9, op := Op.alloc 63, type := 0, pos := "ref.go:337", after := #[], guard := none }) rfl (fun K hK => ?_) AllReadyH.nil))
                · go_simp
                  obtain ⟨wz21, hwz⟩ : ∃ v, v = wz20.alloc (Obj.cells #[.int .i64 0, .int .i64 0] 63) := ⟨_, rfl⟩
                  rw [← hwz]
                  have hl : Below wz20.heap.size wz20 wz21 := by rw [hwz]; exact below_new _ _
                  have hbz21 := bthen hbz20 hl
                  obtain ⟨G21, hG⟩ : ∃ G, G = wz20.heap.size := ⟨_, rfl⟩
                  have i21 : BlkI wz21 G21 63 [0, 0] := by rw [hwz, hG]; exact Blk.new _ _ _
                  have g21 : wr.heap.size ≤ G21 := by rw [hG]; exact (hbz20).size
                  try (have q2021 : G20 < G21 := by rw [hG]; exact Blk.lt i20)
                  try (have q2221 : G22 < G21 := by rw [hG]; exact Blk.lt i22)
                  rw [← hG]
                  clear hG
                  clear hwz
                  have i20 := i20.carry hl
                  clear hl
                  refine hK.out _ _ ⟨cellb c0 hbz21, cellb c1 hbz21, cellb c2 hbz21, cellb c3 hbz21, cellb c4 hbz21, cellb c5 hbz21⟩ (fun hHeld2 => ?_)
                  clear hK K hHeld1
                  try simp only [Act.put, List.setIfInBounds_toArray, List.set_cons_zero, List.set_cons_succ]
                  refine wpAnyH_ready (rs := [22]) (by kernel_rfl) (by simp) ?_
                  refine (AllReadyH.cons (o := { dst := some 9, op := Op.alloc 63, type := 0, pos := "ref.go:337", after := #[], guard := none }) rfl (fun K hK => ?_) AllReadyH.nil)
                  go_simp
                  obtain ⟨wz22, hwz⟩ : ∃ v, v = wz21.alloc (Obj.cells #[.int .i64 0, .int .i64 0] 63) := ⟨_, rfl⟩
                  rw [← hwz]
                  have hl : Below wz21.heap.size wz21 wz22 := by rw [hwz]; exact below_new _ _
                  have hbz22 := bthen hbz21 hl
                  obtain ⟨G22, hG⟩ : ∃ G, G = wz21.heap.size := ⟨_, rfl⟩
                  have i22 : BlkI wz22 G22 63 [0, 0] := by rw [hwz, hG]; exact Blk.new _ _ _
                  have g22 : wr.heap.size ≤ G22 := by rw [hG]; exact (hbz21).size
                  try (have q2022 : G20 < G22 := by rw [hG]; exact Blk.lt i20)
                  try (have q2122 : G21 < G22 := by rw [hG]; exact Blk.lt i21)
                  rw [← hG]
                  clear hG
                  clear hwz
                  have i20 := i20.carry hl
                  have i21 := i21.carry hl
                  clear hl
                  refine hK.out _ _ ⟨cellb c0 hbz22, cellb c1 hbz22, cellb c2 hbz22, cellb c3 hbz22, cellb c4 hbz22, cellb c5 hbz22⟩ (fun hHeld3 => ?_)
                  clear hK K hHeld2
                  try simp only [Act.put, List.setIfInBounds_toArray, List.set_cons_zero, List.set_cons_succ]
                  refine wpAnyH_ready (rs := [23]) (by kernel_rfl) (by simp) ?_
                  refine (AllReadyH.cons (o := { dst := none, op := Op.store 63 (Operand.tmp 7) (Operand.tmp 47), type := 0, pos := "ref.go:337", after := #[{ on := 20, ground := Ground.data }, { on := 3, ground := Ground.data }, { on := 0, ground := Ground.phase }, { on := 1, ground := Ground.phase }, { on := 2, ground := Ground.phase }, { on := 3, ground := Ground.phase }, { on := 4, ground := Ground.textOnly Departure.lateStores }, { on := 5, ground := Ground.textOnly Departure.lateStores }, { on := 6, ground := Ground.textOnly Departure.lateStores }, { on := 7, ground := Ground.textOnly Departure.lateStores }, { on := 8, ground := Ground.textOnly Departure.lateStoresUnsure }, { on := 9, ground := Ground.textOnly Departure.lateStores }, { on := 10, ground := Ground.textOnly Departure.lateStores }, { on := 11, ground := Ground.textOnly Departure.lateStores }, { on := 12, ground := Ground.textOnly Departure.lateStores }, { on := 13, ground := Ground.textOnly Departure.lateStores }, { on := 14, ground := Ground.textOnly Departure.lateStores }, { on := 15, ground := Ground.textOnly Departure.lateStores }, { on := 16, ground := Ground.textOnly Departure.lateStoresUnsure }, { on := 17, ground := Ground.textOnly Departure.lateStores }, { on := 18, ground := Ground.textOnly Departure.lateStores }, { on := 19, ground := Ground.textOnly Departure.lateStores }, { on := 20, ground := Ground.phase }, { on := 21, ground := Ground.phase }, { on := 22, ground := Ground.phase }], guard := none }) rfl (fun K hK => ?_) AllReadyH.nil)
                  refine wp_storeA _ _ _ rfl G20 [A0, A1] [0, 0] rfl rfl i20 rfl Tryz.infoGauss ?_
                  obtain ⟨wz23, hwz⟩ : ∃ v, v = World.setRow wz22 G20 (ia [A0, A1]) := ⟨_, rfl⟩
                  rw [← hwz]
                  have hbz23 : Below wr.heap.size wr wz23 := by rw [hwz]; exact below_rowA hbz22 g20 _
                  replace i20 := BlkI.setRowA i20 [A0, A1]
                  rw [← hwz] at i20
                  replace i21 := BlkI.setRowO i21 (B' := G20) (by omega) (ia [A0, A1])
                  rw [← hwz] at i21
                  replace i22 := BlkI.setRowO i22 (B' := G20) (by omega) (ia [A0, A1])
                  rw [← hwz] at i22
                  clear hwz
                  refine hK.out _ _ ⟨cellb c0 hbz23, cellb c1 hbz23, cellb c2 hbz23, cellb c3 hbz23, cellb c4 hbz23, cellb c5 hbz23⟩ (fun hHeld4 => ?_)
                  clear hK K hHeld3
                  try simp only [Act.put, List.setIfInBounds_toArray, List.set_cons_zero, List.set_cons_succ]
                  refine wpAnyH_ready (rs := [24]) (by kernel_rfl) (by simp) ?_
                  refine (AllReadyH.cons (o := { dst := none, op := Op.store 63 (Operand.tmp 8) (Operand.tmp 55), type := 0, pos := "ref.go:337", after := #[{ on := 21, ground := Ground.data }, { on := 11, ground := Ground.data }, { on := 23, ground := Ground.chain }, { on := 0, ground := Ground.phase }, { on := 1, ground := Ground.phase }, { on := 2, ground := Ground.phase }, { on := 3, ground := Ground.phase }, { on := 4, ground := Ground.phase }, { on := 5, ground := Ground.phase }, { on := 6, ground := Ground.phase }, { on := 7, ground := Ground.phase }, { on := 8, ground := Ground.phase }, { on := 9, ground := Ground.phase }, { on := 10, ground := Ground.phase }, { on := 11, ground := Ground.phase }, { on := 12, ground := Ground.textOnly Departure.lateStores }, { on := 13, ground := Ground.textOnly Departure.lateStores }, { on := 14, ground := Ground.textOnly Departure.lateStores }, { on := 15, ground := Ground.textOnly Departure.lateStores }, { on := 16, ground := Ground.textOnly Departure.lateStoresUnsure }, { on := 17, ground := Ground.textOnly Departure.lateStores }, { on := 18, ground := Ground.textOnly Departure.lateStores }, { on := 19, ground := Ground.textOnly Departure.lateStores }, { on := 20, ground := Ground.phase }, { on := 21, ground := Ground.phase }, { on := 22, ground := Ground.phase }, { on := 23, ground := Ground.phase }], guard := none }) rfl (fun K hK => ?_) AllReadyH.nil)
                  refine wp_storeA _ _ _ rfl G21 [B0, B1] [0, 0] rfl rfl i21 rfl Tryz.infoGauss ?_
                  obtain ⟨wz24, hwz⟩ : ∃ v, v = World.setRow wz23 G21 (ia [B0, B1]) := ⟨_, rfl⟩
                  rw [← hwz]
                  have hbz24 : Below wr.heap.size wr wz24 := by rw [hwz]; exact below_rowA hbz23 g21 _
                  replace i21 := BlkI.setRowA i21 [B0, B1]
                  rw [← hwz] at i21
                  replace i20 := BlkI.setRowO i20 (B' := G21) (by omega) (ia [B0, B1])
                  rw [← hwz] at i20
                  replace i22 := BlkI.setRowO i22 (B' := G21) (by omega) (ia [B0, B1])
                  rw [← hwz] at i22
                  clear hwz
                  refine hK.out _ _ ⟨cellb c0 hbz24, cellb c1 hbz24, cellb c2 hbz24, cellb c3 hbz24, cellb c4 hbz24, cellb c5 hbz24⟩ (fun hHeld5 => ?_)
                  clear hK K hHeld4
                  try simp only [Act.put, List.setIfInBounds_toArray, List.set_cons_zero, List.set_cons_succ]
                  refine wpAnyH_ready (rs := [25]) (by kernel_rfl) (by simp) ?_
                  refine (AllReadyH.cons (o := { dst := none, op := Op.store 63 (Operand.tmp 9) (Operand.tmp 63), type := 0, pos := "ref.go:337", after := #[{ on := 22, ground := Ground.data }, { on := 19, ground := Ground.data }, { on := 24, ground := Ground.chain }, { on := 0, ground := Ground.phase }, { on := 1, ground := Ground.phase }, { on := 2, ground := Ground.phase }, { on := 3, ground := Ground.phase }, { on := 4, ground := Ground.phase }, { on := 5, ground := Ground.phase }, { on := 6, ground := Ground.phase }, { on := 7, ground := Ground.phase }, { on := 8, ground := Ground.phase }, { on := 9, ground := Ground.phase }, { on := 10, ground := Ground.phase }, { on := 11, ground := Ground.phase }, { on := 12, ground := Ground.phase }, { on := 13, ground := Ground.phase }, { on := 14, ground := Ground.phase }, { on := 15, ground := Ground.phase }, { on := 16, ground := Ground.phase }, { on := 17, ground := Ground.phase }, { on := 18, ground := Ground.phase }, { on := 19, ground := Ground.phase }, { on := 20, ground := Ground.phase }, { on := 21, ground := Ground.phase }, { on := 22, ground := Ground.phase }, { on := 23, ground := Ground.phase }, { on := 24, ground := Ground.phase }], guard := none }) rfl (fun K hK => ?_) AllReadyH.nil)
                  refine wp_storeA _ _ _ rfl G22 [C0, C1] [0, 0] rfl rfl i22 rfl Tryz.infoGauss ?_
                  obtain ⟨wz25, hwz⟩ : ∃ v, v = World.setRow wz24 G22 (ia [C0, C1]) := ⟨_, rfl⟩
                  rw [← hwz]
                  have hbz25 : Below wr.heap.size wr wz25 := by rw [hwz]; exact below_rowA hbz24 g22 _
                  replace i22 := BlkI.setRowA i22 [C0, C1]
                  rw [← hwz] at i22
                  replace i20 := BlkI.setRowO i20 (B' := G22) (by omega) (ia [C0, C1])
                  rw [← hwz] at i20
                  replace i21 := BlkI.setRowO i21 (B' := G22) (by omega) (ia [C0, C1])
                  rw [← hwz] at i21
                  clear hwz
                  refine hK.out _ _ ⟨cellb c0 hbz25, cellb c1 hbz25, cellb c2 hbz25, cellb c3 hbz25, cellb c4 hbz25, cellb c5 hbz25⟩ (fun hHeld6 => ?_)
                  clear hK K hHeld5
                  try simp only [Act.put, List.setIfInBounds_toArray, List.set_cons_zero, List.set_cons_succ]
                  refine wpAnyH_done (by kernel_rfl) ?_ _
                  clear hHeld6
                  go_wp2_with fail
                  go_meet
                  exact ⟨G20, G21, G22, rfl, rfl, rfl, i20, i21, i22, hbz25⟩
                · go_simp
                  obtain ⟨wz22, hwz⟩ : ∃ v, v = wz20.alloc (Obj.cells #[.int .i64 0, .int .i64 0] 63) := ⟨_, rfl⟩
                  rw [← hwz]
                  have hl : Below wz20.heap.size wz20 wz22 := by rw [hwz]; exact below_new _ _
                  have hbz22 := bthen hbz20 hl
                  obtain ⟨G22, hG⟩ : ∃ G, G = wz20.heap.size := ⟨_, rfl⟩
                  have i22 : BlkI wz22 G22 63 [0, 0] := by rw [hwz, hG]; exact Blk.new _ _ _
                  have g22 : wr.heap.size ≤ G22 := by rw [hG]; exact (hbz20).size
                  try (have q2022 : G20 < G22 := by rw [hG]; exact Blk.lt i20)
                  try (have q2122 : G21 < G22 := by rw [hG]; exact Blk.lt i21)
                  rw [← hG]
                  clear hG
                  clear hwz
                  have i20 := i20.carry hl
                  clear hl
                  refine hK.out _ _ ⟨cellb c0 hbz22, cellb c1 hbz22, cellb c2 hbz22, cellb c3 hbz22, cellb c4 hbz22, cellb c5 hbz22⟩ (fun hHeld2 => ?_)
                  clear hK K hHeld1
                  try simp only [Act.put, List.setIfInBounds_toArray, List.set_cons_zero, List.set_cons_succ]
                  refine wpAnyH_ready (rs := [21]) (by kernel_rfl) (by simp) ?_
                  refine (AllReadyH.cons (o := { dst := some 8, op := Op.alloc 63, type := 0, pos := "ref.go:337", after := #[], guard := none }) rfl (fun K hK => ?_) AllReadyH.nil)
                  go_simp
                  obtain ⟨wz21, hwz⟩ : ∃ v, v = wz22.alloc (Obj.cells #[.int .i64 0, .int .i64 0] 63) := ⟨_, rfl⟩
                  rw [← hwz]
                  have hl : Below wz22.heap.size wz22 wz21 := by rw [hwz]; exact below_new _ _
                  have hbz21 := bthen hbz22 hl
                  obtain ⟨G21, hG⟩ : ∃ G, G = wz22.heap.size := ⟨_, rfl⟩
                  have i21 : BlkI wz21 G21 63 [0, 0] := by rw [hwz, hG]; exact Blk.new _ _ _
                  have g21 : wr.heap.size ≤ G21 := by rw [hG]; exact (hbz22).size
                  try (have q2021 : G20 < G21 := by rw [hG]; exact Blk.lt i20)
                  try (have q2221 : G22 < G21 := by rw [hG]; exact Blk.lt i22)
                  rw [← hG]
                  clear hG
                  clear hwz
                  have i20 := i20.carry hl
                  have i22 := i22.carry hl
                  clear hl
                  refine hK.out _ _ ⟨cellb c0 hbz21, cellb c1 hbz21, cellb c2 hbz21, cellb c3 hbz21, cellb c4 hbz21, cellb c5 hbz21⟩ (fun hHeld3 => ?_)
                  clear hK K hHeld2
                  try simp only [Act.put, List.setIfInBounds_toArray, List.set_cons_zero, List.set_cons_succ]
                  refine wpAnyH_ready (rs := [23]) (by kernel_rfl) (by simp) ?_
                  refine (AllReadyH.cons (o := { dst := none, op := Op.store 63 (Operand.tmp 7) (Operand.tmp 47), type := 0, pos := "ref.go:337", after := #[{ on := 20, ground := Ground.data }, { on := 3, ground := Ground.data }, { on := 0, ground := Ground.phase }, { on := 1, ground := Ground.phase }, { on := 2, ground := Ground.phase }, { on := 3, ground := Ground.phase }, { on := 4, ground := Ground.textOnly Departure.lateStores }, { on := 5, ground := Ground.textOnly Departure.lateStores }, { on := 6, ground := Ground.textOnly Departure.lateStores }, { on := 7, ground := Ground.textOnly Departure.lateStores }, { on := 8, ground := Ground.textOnly Departure.lateStoresUnsure }, { on := 9, ground := Ground.textOnly Departure.lateStores }, { on := 10, ground := Ground.textOnly Departure.lateStores }, { on := 11, ground := Ground.textOnly Departure.lateStores }, { on := 12, ground := Ground.textOnly Departure.lateStores }, { on := 13, ground := Ground.textOnly Departure.lateStores }, { on := 14, ground := Ground.textOnly Departure.lateStores }, { on := 15, ground := Ground.textOnly Departure.lateStores }, { on := 16, ground := Ground.textOnly Departure.lateStoresUnsure }, { on := 17, ground := Ground.textOnly Departure.lateStores }, { on := 18, ground := Ground.textOnly Departure.lateStores }, { on := 19, ground := Ground.textOnly Departure.lateStores }, { on := 20, ground := Ground.phase }, { on := 21, ground := Ground.phase }, { on := 22, ground := Ground.phase }], guard := none }) rfl (fun K hK => ?_) AllReadyH.nil)
                  refine wp_storeA _ _ _ rfl G20 [A0, A1] [0, 0] rfl rfl i20 rfl Tryz.infoGauss ?_
                  obtain ⟨wz23, hwz⟩ : ∃ v, v = World.setRow wz21 G20 (ia [A0, A1]) := ⟨_, rfl⟩
                  rw [← hwz]
                  have hbz23 : Below wr.heap.size wr wz23 := by rw [hwz]; exact below_rowA hbz21 g20 _
                  replace i20 := BlkI.setRowA i20 [A0, A1]
                  rw [← hwz] at i20
                  replace i21 := BlkI.setRowO i21 (B' := G20) (by omega) (ia [A0, A1])
                  rw [← hwz] at i21
                  replace i22 := BlkI.setRowO i22 (B' := G20) (by omega) (ia [A0, A1])
                  rw [← hwz] at i22
                  clear hwz
                  refine hK.out _ _ ⟨cellb c0 hbz23, cellb c1 hbz23, cellb c2 hbz23, cellb c3 hbz23, cellb c4 hbz23, cellb c5 hbz23⟩ (fun hHeld4 => ?_)
                  clear hK K hHeld3
                  try simp only [Act.put, List.setIfInBounds_toArray, List.set_cons_zero, List.set_cons_succ]
                  refine wpAnyH_ready (rs := [24]) (by kernel_rfl) (by simp) ?_
                  refine (AllReadyH.cons (o := { dst := none, op := Op.store 63 (Operand.tmp 8) (Operand.tmp 55), type := 0, pos := "ref.go:337", after := #[{ on := 21, ground := Ground.data }, { on := 11, ground := Ground.data }, { on := 23, ground := Ground.chain }, { on := 0, ground := Ground.phase }, { on := 1, ground := Ground.phase }, { on := 2, ground := Ground.phase }, { on := 3, ground := Ground.phase }, { on := 4, ground := Ground.phase }, { on := 5, ground := Ground.phase }, { on := 6, ground := Ground.phase }, { on := 7, ground := Ground.phase }, { on := 8, ground := Ground.phase }, { on := 9, ground := Ground.phase }, { on := 10, ground := Ground.phase }, { on := 11, ground := Ground.phase }, { on := 12, ground := Ground.textOnly Departure.lateStores }, { on := 13, ground := Ground.textOnly Departure.lateStores }, { on := 14, ground := Ground.textOnly Departure.lateStores }, { on := 15, ground := Ground.textOnly Departure.lateStores }, { on := 16, ground := Ground.textOnly Departure.lateStoresUnsure }, { on := 17, ground := Ground.textOnly Departure.lateStores }, { on := 18, ground := Ground.textOnly Departure.lateStores }, { on := 19, ground := Ground.textOnly Departure.lateStores }, { on := 20, ground := Ground.phase }, { on := 21, ground := Ground.phase }, { on := 22, ground := Ground.phase }, { on := 23, ground := Ground.phase }], guard := none }) rfl (fun K hK => ?_) AllReadyH.nil)
                  refine wp_storeA _ _ _ rfl G21 [B0, B1] [0, 0] rfl rfl i21 rfl Tryz.infoGauss ?_
                  obtain ⟨wz24, hwz⟩ : ∃ v, v = World.setRow wz23 G21 (ia [B0, B1]) := ⟨_, rfl⟩
                  rw [← hwz]
                  have hbz24 : Below wr.heap.size wr wz24 := by rw [hwz]; exact below_rowA hbz23 g21 _
                  replace i21 := BlkI.setRowA i21 [B0, B1]
                  rw [← hwz] at i21
                  replace i20 := BlkI.setRowO i20 (B' := G21) (by omega) (ia [B0, B1])
                  rw [← hwz] at i20
                  replace i22 := BlkI.setRowO i22 (B' := G21) (by omega) (ia [B0, B1])
                  rw [← hwz] at i22
                  clear hwz
                  refine hK.out _ _ ⟨cellb c0 hbz24, cellb c1 hbz24, cellb c2 hbz24, cellb c3 hbz24, cellb c4 hbz24, cellb c5 hbz24⟩ (fun hHeld5 => ?_)
                  clear hK K hHeld4
                  try simp only [Act.put, List.setIfInBounds_toArray, List.set_cons_zero, List.set_cons_succ]
                  refine wpAnyH_ready (rs := [25]) (by kernel_rfl) (by simp) ?_
                  refine (AllReadyH.cons (o := { dst := none, op := Op.store 63 (Operand.tmp 9) (Operand.tmp 63), type := 0, pos := "ref.go:337", after := #[{ on := 22, ground := Ground.data }, { on := 19, ground := Ground.data }, { on := 24, ground := Ground.chain }, { on := 0, ground := Ground.phase }, { on := 1, ground := Ground.phase }, { on := 2, ground := Ground.phase }, { on := 3, ground := Ground.phase }, { on := 4, ground := Ground.phase }, { on := 5, ground := Ground.phase }, { on := 6, ground := Ground.phase }, { on := 7, ground := Ground.phase }, { on := 8, ground := Ground.phase }, { on := 9, ground := Ground.phase }, { on := 10, ground := Ground.phase }, { on := 11, ground := Ground.phase }, { on := 12, ground := Ground.phase }, { on := 13, ground := Ground.phase }, { on := 14, ground := Ground.phase }, { on := 15, ground := Ground.phase }, { on := 16, ground := Ground.phase }, { on := 17, ground := Ground.phase }, { on := 18, ground := Ground.phase }, { on := 19, ground := Ground.phase }, { on := 20, ground := Ground.phase }, { on := 21, ground := Ground.phase }, { on := 22, ground := Ground.phase }, { on := 23, ground := Ground.phase }, { on := 24, ground := Ground.phase }], guard := none }) rfl (fun K hK => ?_) AllReadyH.nil)
                  refine wp_storeA _ _ _ rfl G22 [C0, C1] [0, 0] rfl rfl i22 rfl Tryz.infoGauss ?_
                  obtain ⟨wz25, hwz⟩ : ∃ v, v = World.setRow wz24 G22 (ia [C0, C1]) := ⟨_, rfl⟩
                  rw [← hwz]
                  have hbz25 : Below wr.heap.size wr wz25 := by rw [hwz]; exact below_rowA hbz24 g22 _
                  replace i22 := BlkI.setRowA i22 [C0, C1]
                  rw [← hwz] at i22
                  replace i20 := BlkI.setRowO i20 (B' := G22) (by omega) (ia [C0, C1])
                  rw [← hwz] at i20
                  replace i21 := BlkI.setRowO i21 (B' := G22) (by omega) (ia [C0, C1])
                  rw [← hwz] at i21
                  clear hwz
                  refine hK.out _ _ ⟨cellb c0 hbz25, cellb c1 hbz25, cellb c2 hbz25, cellb c3 hbz25, cellb c4 hbz25, cellb c5 hbz25⟩ (fun hHeld6 => ?_)
                  clear hK K hHeld5
                  try simp only [Act.put, List.setIfInBounds_toArray, List.set_cons_zero, List.set_cons_succ]
                  refine wpAnyH_done (by kernel_rfl) ?_ _
                  clear hHeld6
                  go_wp2_with fail
                  go_meet
                  exact ⟨G20, G21, G22, rfl, rfl, rfl, i20, i21, i22, hbz25⟩
              · go_simp
                obtain ⟨wz21, hwz⟩ : ∃ v, v = wzd.alloc (Obj.cells #[.int .i64 0, .int .i64 0] 63) := ⟨_, rfl⟩
                rw [← hwz]
                have hl : Below wzd.heap.size wzd wz21 := by rw [hwz]; exact below_new _ _
                have hbz21 := bthen hbzd hl
                obtain ⟨G21, hG⟩ : ∃ G, G = wzd.heap.size := ⟨_, rfl⟩
                have i21 : BlkI wz21 G21 63 [0, 0] := by rw [hwz, hG]; exact Blk.new _ _ _
                have g21 : wr.heap.size ≤ G21 := by rw [hG]; exact (hbzd).size
                try (have q2021 : G20 < G21 := by rw [hG]; exact Blk.lt i20)
                try (have q2221 : G22 < G21 := by rw [hG]; exact Blk.lt i22)
                rw [← hG]
                clear hG
                clear hwz
                clear hl
                refine hK.out _ _ ⟨cellb c0 hbz21, cellb c1 hbz21, cellb c2 hbz21, cellb c3 hbz21, cellb c4 hbz21, cellb c5 hbz21⟩ (fun hHeld1 => ?_)
                clear hK K hHeld0
                try simp only [Act.put, List.setIfInBounds_toArray, List.set_cons_zero, List.set_cons_succ]
                refine wpAnyH_ready (rs := [20, 22]) (by kernel_rfl) (by simp) ?_
                refine (AllReadyH.cons (o := { dst := some 7, op := Op.alloc 63, type := 0, pos := "ref.go:337", after := #[], guard := none }) rfl (fun K hK => ?_) (AllReadyH.cons (o := { dst := some 9, op := Op.alloc 63, type := 0, pos := "ref.go:337", after := #[], guard := none }) rfl (fun K hK => ?_) AllReadyH.nil))
                · go_simp
                  obtain ⟨wz20, hwz⟩ : ∃ v, v = wz21.alloc (Obj.cells #[.int .i64 0, .int .i64 0] 63) := ⟨_, rfl⟩
                  rw [← hwz]
                  have hl : Below wz21.heap.size wz21 wz20 := by rw [hwz]; exact below_new _ _
                  have hbz20 := bthen hbz21 hl
                  obtain ⟨G20, hG⟩ : ∃ G, G = wz21.heap.size := ⟨_, rfl⟩
                  have i20 : BlkI wz20 G20 63 [0, 0] := by rw [hwz, hG]; exact Blk.new _ _ _
                  have g20 : wr.heap.size ≤ G20 := by rw [hG]; exact (hbz21).size
                  try (have q2120 : G21 < G20 := by rw [hG]; exact Blk.lt i21)
                  try (have q2220 : G22 < G20 := by rw [hG]; exact Blk.lt i22)
                  rw [← hG]
                  clear hG
                  clear hwz
                  have i21 := i21.carry hl
                  clear hl
                  refine hK.out _ _ ⟨cellb c0 hbz20, cellb c1 hbz20, cellb c2 hbz20, cellb c3 hbz20, cellb c4 hbz20, cellb c5 hbz20⟩ (fun hHeld2 => ?_)
                  clear hK K hHeld1
                  try simp only [Act.put, List.setIfInBounds_toArray, List.set_cons_zero, List.set_cons_succ]
                  refine wpAnyH_ready (rs := [22]) (by kernel_rfl) (by simp) ?_
                  refine (AllReadyH.cons (o := { dst := some 9, op := Op.alloc 63, type := 0, pos := "ref.go:337", after := #[], guard := none }) rfl (fun K hK => ?_) AllReadyH.nil)
                  go_simp
                  obtain ⟨wz22, hwz⟩ : ∃ v, v = wz20.alloc (Obj.cells #[.int .i64 0, .int .i64 0] 63) := ⟨_, rfl⟩
                  rw [← hwz]
                  have hl : Below wz20.heap.size wz20 wz22 := by rw [hwz]; exact below_new _ _
                  have hbz22 := bthen hbz20 hl
                  obtain ⟨G22, hG⟩ : ∃ G, G = wz20.heap.size := ⟨_, rfl⟩
                  have i22 : BlkI wz22 G22 63 [0, 0] := by rw [hwz, hG]; exact Blk.new _ _ _
                  have g22 : wr.heap.size ≤ G22 := by rw [hG]; exact (hbz20).size
                  try (have q2022 : G20 < G22 := by rw [hG]; exact Blk.lt i20)
                  try (have q2122 : G21 < G22 := by rw [hG]; exact Blk.lt i21)
                  rw [← hG]
                  clear hG
                  clear hwz
                  have i21 := i21.carry hl
                  have i20 := i20.carry hl
                  clear hl
                  refine hK.out _ _ ⟨cellb c0 hbz22, cellb c1 hbz22, cellb c2 hbz22, cellb c3 hbz22, cellb c4 hbz22, cellb c5 hbz22⟩ (fun hHeld3 => ?_)
                  clear hK K hHeld2
                  try simp only [Act.put, List.setIfInBounds_toArray, List.set_cons_zero, List.set_cons_succ]
                  refine wpAnyH_ready (rs := [23]) (by kernel_rfl) (by simp) ?_
                  refine (AllReadyH.cons (o := { dst := none, op := Op.store 63 (Operand.tmp 7) (Operand.tmp 47), type := 0, pos := "ref.go:337", after := #[{ on := 20, ground := Ground.data }, { on := 3, ground := Ground.data }, { on := 0, ground := Ground.phase }, { on := 1, ground := Ground.phase }, { on := 2, ground := Ground.phase }, { on := 3, ground := Ground.phase }, { on := 4, ground := Ground.textOnly Departure.lateStores }, { on := 5, ground := Ground.textOnly Departure.lateStores }, { on := 6, ground := Ground.textOnly Departure.lateStores }, { on := 7, ground := Ground.textOnly Departure.lateStores }, { on := 8, ground := Ground.textOnly Departure.lateStoresUnsure }, { on := 9, ground := Ground.textOnly Departure.lateStores }, { on := 10, ground := Ground.textOnly Departure.lateStores }, { on := 11, ground := Ground.textOnly Departure.lateStores }, { on := 12, ground := Ground.textOnly Departure.lateStores }, { on := 13, ground := Ground.textOnly Departure.lateStores }, { on := 14, ground := Ground.textOnly Departure.lateStores }, { on := 15, ground := Ground.textOnly Departure.lateStores }, { on := 16, ground := Ground.textOnly Departure.lateStoresUnsure }, { on := 17, ground := Ground.textOnly Departure.lateStores }, { on := 18, ground := Ground.textOnly Departure.lateStores }, { on := 19, ground := Ground.textOnly Departure.lateStores }, { on := 20, ground := Ground.phase }, { on := 21, ground := Ground.phase }, { on := 22, ground := Ground.phase }], guard := none }) rfl (fun K hK => ?_) AllReadyH.nil)
                  refine wp_storeA _ _ _ rfl G20 [A0, A1] [0, 0] rfl rfl i20 rfl Tryz.infoGauss ?_
                  obtain ⟨wz23, hwz⟩ : ∃ v, v = World.setRow wz22 G20 (ia [A0, A1]) := ⟨_, rfl⟩
                  rw [← hwz]
                  have hbz23 : Below wr.heap.size wr wz23 := by rw [hwz]; exact below_rowA hbz22 g20 _
                  replace i20 := BlkI.setRowA i20 [A0, A1]
                  rw [← hwz] at i20
                  replace i21 := BlkI.setRowO i21 (B' := G20) (by omega) (ia [A0, A1])
                  rw [← hwz] at i21
                  replace i22 := BlkI.setRowO i22 (B' := G20) (by omega) (ia [A0, A1])
                  rw [← hwz] at i22
                  clear hwz
                  refine hK.out _ _ ⟨cellb c0 hbz23, cellb c1 hbz23, cellb c2 hbz23, cellb c3 hbz23, cellb c4 hbz23, cellb c5 hbz23⟩ (fun hHeld4 => ?_)
                  clear hK K hHeld3
                  try simp only [Act.put, List.setIfInBounds_toArray, List.set_cons_zero, List.set_cons_succ]
                  refine wpAnyH_ready (rs := [24]) (by kernel_rfl) (by simp) ?_
                  refine (AllReadyH.cons (o := { dst := none, op := Op.store 63 (Operand.tmp 8) (Operand.tmp 55), type := 0, pos := "ref.go:337", after := #[{ on := 21, ground := Ground.data }, { on := 11, ground := Ground.data }, { on := 23, ground := Ground.chain }, { on := 0, ground := Ground.phase }, { on := 1, ground := Ground.phase }, { on := 2, ground := Ground.phase }, { on := 3, ground := Ground.phase }, { on := 4, ground := Ground.phase }, { on := 5, ground := Ground.phase }, { on := 6, ground := Ground.phase }, { on := 7, ground := Ground.phase }, { on := 8, ground := Ground.phase }, { on := 9, ground := Ground.phase }, { on := 10, ground := Ground.phase }, { on := 11, ground := Ground.phase }, { on := 12, ground := Ground.textOnly Departure.lateStores }, { on := 13, ground := Ground.textOnly Departure.lateStores }, { on := 14, ground := Ground.textOnly Departure.lateStores }, { on := 15, ground := Ground.textOnly Departure.lateStores }, { on := 16, ground := Ground.textOnly Departure.lateStoresUnsure }, { on := 17, ground := Ground.textOnly Departure.lateStores }, { on := 18, ground := Ground.textOnly Departure.lateStores }, { on := 19, ground := Ground.textOnly Departure.lateStores }, { on := 20, ground := Ground.phase }, { on := 21, ground := Ground.phase }, { on := 22, ground := Ground.phase }, { on := 23, ground := Ground.phase }], guard := none }) rfl (fun K hK => ?_) AllReadyH.nil)
                  refine wp_storeA _ _ _ rfl G21 [B0, B1] [0, 0] rfl rfl i21 rfl Tryz.infoGauss ?_
                  obtain ⟨wz24, hwz⟩ : ∃ v, v = World.setRow wz23 G21 (ia [B0, B1]) := ⟨_, rfl⟩
                  rw [← hwz]
                  have hbz24 : Below wr.heap.size wr wz24 := by rw [hwz]; exact below_rowA hbz23 g21 _
                  replace i21 := BlkI.setRowA i21 [B0, B1]
                  rw [← hwz] at i21
                  replace i20 := BlkI.setRowO i20 (B' := G21) (by omega) (ia [B0, B1])
                  rw [← hwz] at i20
                  replace i22 := BlkI.setRowO i22 (B' := G21) (by omega) (ia [B0, B1])
                  rw [← hwz] at i22
                  clear hwz
                  refine hK.out _ _ ⟨cellb c0 hbz24, cellb c1 hbz24, cellb c2 hbz24, cellb c3 hbz24, cellb c4 hbz24, cellb c5 hbz24⟩ (fun hHeld5 => ?_)
                  clear hK K hHeld4
                  try simp only [Act.put, List.setIfInBounds_toArray, List.set_cons_zero, List.set_cons_succ]
                  refine wpAnyH_ready (rs := [25]) (by kernel_rfl) (by simp) ?_
                  refine (AllReadyH.cons (o := { dst := none, op := Op.store 63 (Operand.tmp 9) (Operand.tmp 63), type := 0, pos := "ref.go:337", after := #[{ on := 22, ground := Ground.data }, { on := 19, ground := Ground.data }, { on := 24, ground := Ground.chain }, { on := 0, ground := Ground.phase }, { on := 1, ground := Ground.phase }, { on := 2, ground := Ground.phase }, { on := 3, ground := Ground.phase }, { on := 4, ground := Ground.phase }, { on := 5, ground := Ground.phase }, { on := 6, ground := Ground.phase }, { on := 7, ground := Ground.phase }, { on := 8, ground := Ground.phase }, { on := 9, ground := Ground.phase }, { on := 10, ground := Ground.phase }, { on := 11, ground := Ground.phase }, { on := 12, ground := Ground.phase }, { on := 13, ground := Ground.phase }, { on := 14, ground := Ground.phase }, { on := 15, ground := Ground.phase }, { on := 16, ground := Ground.phase }, { on := 17, ground := Ground.phase }, { on := 18, ground := Ground.phase }, { on := 19, ground := Ground.phase }, { on := 20, ground := Ground.phase }, { on := 21, ground := Ground.phase }, { on := 22, ground := Ground.phase }, { on := 23, ground := Ground.phase }, { on := 24, ground := Ground.phase }], guard := none }) rfl (fun K hK => ?_) AllReadyH.nil)
                  refine wp_storeA _ _ _ rfl G22 [C0, C1] [0, 0] rfl rfl i22 rfl Tryz.infoGauss ?_
                  obtain ⟨wz25, hwz⟩ : ∃ v, v = World.setRow wz24 G22 (ia [C0, C1]) := ⟨_, rfl⟩
                  rw [← hwz]
                  have hbz25 : Below wr.heap.size wr wz25 := by rw [hwz]; exact below_rowA hbz24 g22 _
                  replace i22 := BlkI.setRowA i22 [C0, C1]
                  rw [← hwz] at i22
                  replace i20 := BlkI.setRowO i20 (B' := G22) (by omega) (ia [C0, C1])
                  rw [← hwz] at i20
                  replace i21 := BlkI.setRowO i21 (B' := G22) (by omega) (ia [C0, C1])
                  rw [← hwz] at i21
                  clear hwz
                  refine hK.out _ _ ⟨cellb c0 hbz25, cellb c1 hbz25, cellb c2 hbz25, cellb c3 hbz25, cellb c4 hbz25, cellb c5 hbz25⟩ (fun hHeld6 => ?_)
                  clear hK K hHeld5
                  try simp only [Act.put, List.setIfInBounds_toArray, List.set_cons_zero, List.set_cons_succ]
                  refine wpAnyH_done (by kernel_rfl) ?_ _
                  clear hHeld6
                  go_wp2_with fail
                  go_meet
                  exact ⟨G20, G21, G22, rfl, rfl, rfl, i20, i21, i22, hbz25⟩
                · go_simp
                  obtain ⟨wz22, hwz⟩ : ∃ v, v = wz21.alloc (Obj.cells #[.int .i64 0, .int .i64 0] 63) := ⟨_, rfl⟩
                  rw [← hwz]
                  have hl : Below wz21.heap.size wz21 wz22 := by rw [hwz]; exact below_new _ _
                  have hbz22 := bthen hbz21 hl
                  obtain ⟨G22, hG⟩ : ∃ G, G = wz21.heap.size := ⟨_, rfl⟩
                  have i22 : BlkI wz22 G22 63 [0, 0] := by rw [hwz, hG]; exact Blk.new _ _ _
                  have g22 : wr.heap.size ≤ G22 := by rw [hG]; exact (hbz21).size
                  try (have q2022 : G20 < G22 := by rw [hG]; exact Blk.lt i20)
                  try (have q2122 : G21 < G22 := by rw [hG]; exact Blk.lt i21)
                  rw [← hG]
                  clear hG
                  clear hwz
                  have i21 := i21.carry hl
                  clear hl
                  refine hK.out _ _ ⟨cellb c0 hbz22, cellb c1 hbz22, cellb c2 hbz22, cellb c3 hbz22, cellb c4 hbz22, cellb c5 hbz22⟩ (fun hHeld2 => ?_)
                  clear hK K hHeld1
                  try simp only [Act.put, List.setIfInBounds_toArray, List.set_cons_zero, List.set_cons_succ]
                  refine wpAnyH_ready (rs := [20]) (by kernel_rfl) (by simp) ?_
                  refine (AllReadyH.cons (o := { dst := some 7, op := Op.alloc 63, type := 0, pos := "ref.go:337", after := #[], guard := none }) rfl (fun K hK => ?_) AllReadyH.nil)
                  go_simp
                  obtain ⟨wz20, hwz⟩ : ∃ v, v = wz22.alloc (Obj.cells #[.int .i64 0, .int .i64 0] 63) := ⟨_, rfl⟩
                  rw [← hwz]
                  have hl : Below wz22.heap.size wz22 wz20 := by rw [hwz]; exact below_new _ _
                  have hbz20 := bthen hbz22 hl
                  obtain ⟨G20, hG⟩ : ∃ G, G = wz22.heap.size := ⟨_, rfl⟩
                  have i20 : BlkI wz20 G20 63 [0, 0] := by rw [hwz, hG]; exact Blk.new _ _ _
                  have g20 : wr.heap.size ≤ G20 := by rw [hG]; exact (hbz22).size
                  try (have q2120 : G21 < G20 := by rw [hG]; exact Blk.lt i21)
                  try (have q2220 : G22 < G20 := by rw [hG]; exact Blk.lt i22)
                  rw [← hG]
                  clear hG
                  clear hwz
                  have i21 := i21.carry hl
                  have i22 := i22.carry hl
                  clear hl
                  refine hK.out _ _ ⟨cellb c0 hbz20, cellb c1 hbz20, cellb c2 hbz20, cellb c3 hbz20, cellb c4 hbz20, cellb c5 hbz20⟩ (fun hHeld3 => ?_)
                  clear hK K hHeld2
                  try simp only [Act.put, List.setIfInBounds_toArray, List.set_cons_zero, List.set_cons_succ]
                  refine wpAnyH_ready (rs := [23]) (by kernel_rfl) (by simp) ?_
                  refine (AllReadyH.cons (o := { dst := none, op := Op.store 63 (Operand.tmp 7) (Operand.tmp 47), type := 0, pos := "ref.go:337", after := #[{ on := 20, ground := Ground.data }, { on := 3, ground := Ground.data }, { on := 0, ground := Ground.phase }, { on := 1, ground := Ground.phase }, { on := 2, ground := Ground.phase }, { on := 3, ground := Ground.phase }, { on := 4, ground := Ground.textOnly Departure.lateStores }, { on := 5, ground := Ground.textOnly Departure.lateStores }, { on := 6, ground := Ground.textOnly Departure.lateStores }, { on := 7, ground := Ground.textOnly Departure.lateStores }, { on := 8, ground := Ground.textOnly Departure.lateStoresUnsure }, { on := 9, ground := Ground.textOnly Departure.lateStores }, { on := 10, ground := Ground.textOnly Departure.lateStores }, { on := 11, ground := Ground.textOnly Departure.lateStores }, { on := 12, ground := Ground.textOnly Departure.lateStores }, { on := 13, ground := Ground.textOnly Departure.lateStores }, { on := 14, ground := Ground.textOnly Departure.lateStores }, { on := 15, ground := Ground.textOnly Departure.lateStores }, { on := 16, ground := Ground.textOnly Departure.lateStoresUnsure }, { on := 17, ground := Ground.textOnly Departure.lateStores }, { on := 18, ground := Ground.textOnly Departure.lateStores }, { on := 19, ground := Ground.textOnly Departure.lateStores }, { on := 20, ground := Ground.phase }, { on := 21, ground := Ground.phase }, { on := 22, ground := Ground.phase }], guard := none }) rfl (fun K hK => ?_) AllReadyH.nil)
                  refine wp_storeA _ _ _ rfl G20 [A0, A1] [0, 0] rfl rfl i20 rfl Tryz.infoGauss ?_
                  obtain ⟨wz23, hwz⟩ : ∃ v, v = World.setRow wz20 G20 (ia [A0, A1]) := ⟨_, rfl⟩
                  rw [← hwz]
                  have hbz23 : Below wr.heap.size wr wz23 := by rw [hwz]; exact below_rowA hbz20 g20 _
                  replace i20 := BlkI.setRowA i20 [A0, A1]
                  rw [← hwz] at i20
                  replace i21 := BlkI.setRowO i21 (B' := G20) (by omega) (ia [A0, A1])
                  rw [← hwz] at i21
                  replace i22 := BlkI.setRowO i22 (B' := G20) (by omega) (ia [A0, A1])
                  rw [← hwz] at i22
                  clear hwz
                  refine hK.out _ _ ⟨cellb c0 hbz23, cellb c1 hbz23, cellb c2 hbz23, cellb c3 hbz23, cellb c4 hbz23, cellb c5 hbz23⟩ (fun hHeld4 => ?_)
                  clear hK K hHeld3
                  try simp only [Act.put, List.setIfInBounds_toArray, List.set_cons_zero, List.set_cons_succ]
                  refine wpAnyH_ready (rs := [24]) (by kernel_rfl) (by simp) ?_
                  refine (AllReadyH.cons (o := { dst := none, op := Op.store 63 (Operand.tmp 8) (Operand.tmp 55), type := 0, pos := "ref.go:337", after := #[{ on := 21, ground := Ground.data }, { on := 11, ground := Ground.data }, { on := 23, ground := Ground.chain }, { on := 0, ground := Ground.phase }, { on := 1, ground := Ground.phase }, { on := 2, ground := Ground.phase }, { on := 3, ground := Ground.phase }, { on := 4, ground := Ground.phase }, { on := 5, ground := Ground.phase }, { on := 6, ground := Ground.phase }, { on := 7, ground := Ground.phase }, { on := 8, ground := Ground.phase }, { on := 9, ground := Ground.phase }, { on := 10, ground := Ground.phase }, { on := 11, ground := Ground.phase }, { on := 12, ground := Ground.textOnly Departure.lateStores }, { on := 13, ground := Ground.textOnly Departure.lateStores }, { on := 14, ground := Ground.textOnly Departure.lateStores }, { on := 15, ground := Ground.textOnly Departure.lateStores }, { on := 16, ground := Ground.textOnly Departure.lateStoresUnsure }, { on := 17, ground := Ground.textOnly Departure.lateStores }, { on := 18, ground := Ground.textOnly Departure.lateStores }, { on := 19, ground := Ground.textOnly Departure.lateStores }, { on := 20, ground := Ground.phase }, { on := 21, ground := Ground.phase }, { on := 22, ground := Ground.phase }, { on := 23, ground := Ground.phase }], guard := none }) rfl (fun K hK => ?_) AllReadyH.nil)
                  refine wp_storeA _ _ _ rfl G21 [B0, B1] [0, 0] rfl rfl i21 rfl Tryz.infoGauss ?_
                  obtain ⟨wz24, hwz⟩ : ∃ v, v = World.setRow wz23 G21 (ia [B0, B1]) := ⟨_, rfl⟩
                  rw [← hwz]
                  have hbz24 : Below wr.heap.size wr wz24 := by rw [hwz]; exact below_rowA hbz23 g21 _
                  replace i21 := BlkI.setRowA i21 [B0, B1]
                  rw [← hwz] at i21
                  replace i20 := BlkI.setRowO i20 (B' := G21) (by omega) (ia [B0, B1])
                  rw [← hwz] at i20
                  replace i22 := BlkI.setRowO i22 (B' := G21) (by omega) (ia [B0, B1])
                  rw [← hwz] at i22
                  clear hwz
                  refine hK.out _ _ ⟨cellb c0 hbz24, cellb c1 hbz24, cellb c2 hbz24, cellb c3 hbz24, cellb c4 hbz24, cellb c5 hbz24⟩ (fun hHeld5 => ?_)
                  clear hK K hHeld4
                  try simp only [Act.put, List.setIfInBounds_toArray, List.set_cons_zero, List.set_cons_succ]
                  refine wpAnyH_ready (rs := [25]) (by kernel_rfl) (by simp) ?_
                  refine (AllReadyH.cons (o := { dst := none, op := Op.store 63 (Operand.tmp 9) (Operand.tmp 63), type := 0, pos := "ref.go:337", after := #[{ on := 22, ground := Ground.data }, { on := 19, ground := Ground.data }, { on := 24, ground := Ground.chain }, { on := 0, ground := Ground.phase }, { on := 1, ground := Ground.phase }, { on := 2, ground := Ground.phase }, { on := 3, ground := Ground.phase }, { on := 4, ground := Ground.phase }, { on := 5, ground := Ground.phase }, { on := 6, ground := Ground.phase }, { on := 7, ground := Ground.phase }, { on := 8, ground := Ground.phase }, { on := 9, ground := Ground.phase }, { on := 10, ground := Ground.phase }, { on := 11, ground := Ground.phase }, { on := 12, ground := Ground.phase }, { on := 13, ground := Ground.phase }, { on := 14, ground := Ground.phase }, { on := 15, ground := Ground.phase }, { on := 16, ground := Ground.phase }, { on := 17, ground := Ground.phase }, { on := 18, ground := Ground.phase }, { on := 19, ground := Ground.phase }, { on := 20, ground := Ground.phase }, { on := 21, ground := Ground.phase }, { on := 22, ground := Ground.phase }, { on := 23, ground := Ground.phase }, { on := 24, ground := Ground.phase }], guard := none }) rfl (fun K hK => ?_) AllReadyH.nil)
                  refine wp_storeA _ _ _ rfl G22 [C0, C1] [0, 0] rfl rfl i22 rfl Tryz.infoGauss ?_
                  obtain ⟨wz25, hwz⟩ : ∃ v, v = World.setRow wz24 G22 (ia [C0, C1]) := ⟨_, rfl⟩
                  rw [← hwz]
                  have hbz25 : Below wr.heap.size wr wz25 := by rw [hwz]; exact below_rowA hbz24 g22 _
                  replace i22 := BlkI.setRowA i22 [C0, C1]
                  rw [← hwz] at i22
                  replace i20 := BlkI.setRowO i20 (B' := G22) (by omega) (ia [C0, C1])
                  rw [← hwz] at i20
                  replace i21 := BlkI.setRowO i21 (B' := G22) (by omega) (ia [C0, C1])
                  rw [← hwz] at i21
                  clear hwz
                  refine hK.out _ _ ⟨cellb c0 hbz25, cellb c1 hbz25, cellb c2 hbz25, cellb c3 hbz25, cellb c4 hbz25, cellb c5 hbz25⟩ (fun hHeld6 => ?_)
                  clear hK K hHeld5
                  try simp only [Act.put, List.setIfInBounds_toArray, List.set_cons_zero, List.set_cons_succ]
                  refine wpAnyH_done (by kernel_rfl) ?_ _
                  clear hHeld6
                  go_wp2_with fail
                  go_meet
                  exact ⟨G20, G21, G22, rfl, rfl, rfl, i20, i21, i22, hbz25⟩
              · go_simp
                obtain ⟨wz22, hwz⟩ : ∃ v, v = wzd.alloc (Obj.cells #[.int .i64 0, .int .i64 0] 63) := ⟨_, rfl⟩
                rw [← hwz]
                have hl : Below wzd.heap.size wzd wz22 := by rw [hwz]; exact below_new _ _
                have hbz22 := bthen hbzd hl
                obtain ⟨G22, hG⟩ : ∃ G, G = wzd.heap.size := ⟨_, rfl⟩
                have i22 : BlkI wz22 G22 63 [0, 0] := by rw [hwz, hG]; exact Blk.new _ _ _
                have g22 : wr.heap.size ≤ G22 := by rw [hG]; exact (hbzd).size
                try (have q2022 : G20 < G22 := by rw [hG]; exact Blk.lt i20)
                try (have q2122 : G21 < G22 := by rw [hG]; exact Blk.lt i21)
                rw [← hG]
                clear hG
                clear hwz
                clear hl
                refine hK.out _ _ ⟨cellb c0 hbz22, cellb c1 hbz22, cellb c2 hbz22, cellb c3 hbz22, cellb c4 hbz22, cellb c5 hbz22⟩ (fun hHeld1 => ?_)
                clear hK K hHeld0
                try simp only [Act.put, List.setIfInBounds_toArray, List.set_cons_zero, List.set_cons_succ]
                refine wpAnyH_ready (rs := [20, 21]) (by kernel_rfl) (by simp) ?_
                refine (AllReadyH.cons (o := { dst := some 7, op := Op.alloc 63, type := 0, pos := "ref.go:337", after := #[], guard := none }) rfl (fun K hK => ?_) (AllReadyH.cons (o := { dst := some 8, op := Op.alloc 63, type := 0, pos := "ref.go:337", after := #[], guard := none }) rfl (fun K hK => ?_) AllReadyH.nil))
                · go_simp
                  obtain ⟨wz20, hwz⟩ : ∃ v, v = wz22.alloc (Obj.cells #[.int .i64 0, .int .i64 0] 63) := ⟨_, rfl⟩
                  rw [← hwz]
                  have hl : Below wz22.heap.size wz22 wz20 := by rw [hwz]; exact below_new _ _
                  have hbz20 := bthen hbz22 hl
                  obtain ⟨G20, hG⟩ : ∃ G, G = wz22.heap.size := ⟨_, rfl⟩
                  have i20 : BlkI wz20 G20 63 [0, 0] := by rw [hwz, hG]; exact Blk.new _ _ _
                  have g20 : wr.heap.size ≤ G20 := by rw [hG]; exact (hbz22).size
                  try (have q2120 : G21 < G20 := by rw [hG]; exact Blk.lt i21)
                  try (have q2220 : G22 < G20 := by rw [hG]; exact Blk.lt i22)
                  rw [← hG]
                  clear hG
                  clear hwz
                  have i22 := i22.carry hl
                  clear hl
                  refine hK.out _ _ ⟨cellb c0 hbz20, cellb c1 hbz20, cellb c2 hbz20, cellb c3 hbz20, cellb c4 hbz20, cellb c5 hbz20⟩ (fun hHeld2 => ?_)
                  clear hK K hHeld1
                  try simp only [Act.put, List.setIfInBounds_toArray, List.set_cons_zero, List.set_cons_succ]
                  refine wpAnyH_ready (rs := [21]) (by kernel_rfl) (by simp) ?_
                  refine (AllReadyH.cons (o := { dst := some 8, op := Op.alloc 63, type := 0, pos := "ref.go:337", after := #[], guard := none }) rfl (fun K hK => ?_) AllReadyH.nil)
                  go_simp
                  obtain ⟨wz21, hwz⟩ : ∃ v, v = wz20.alloc (Obj.cells #[.int .i64 0, .int .i64 0] 63) := ⟨_, rfl⟩
                  rw [← hwz]
                  have hl : Below wz20.heap.size wz20 wz21 := by rw [hwz]; exact below_new _ _
                  have hbz21 := bthen hbz20 hl
                  obtain ⟨G21, hG⟩ : ∃ G, G = wz20.heap.size := ⟨_, rfl⟩
                  have i21 : BlkI wz21 G21 63 [0, 0] := by rw [hwz, hG]; exact Blk.new _ _ _
                  have g21 : wr.heap.size ≤ G21 := by rw [hG]; exact (hbz20).size
                  try (have q2021 : G20 < G21 := by rw [hG]; exact Blk.lt i20)
                  try (have q2221 : G22 < G21 := by rw [hG]; exact Blk.lt i22)
                  rw [← hG]
                  clear hG
                  clear hwz
                  have i22 := i22.carry hl
                  have i20 := i20.carry hl
                  clear hl
                  refine hK.out _ _ ⟨cellb c0 hbz21, cellb c1 hbz21, cellb c2 hbz21, cellb c3 hbz21, cellb c4 hbz21, cellb c5 hbz21⟩ (fun hHeld3 => ?_)
                  clear hK K hHeld2
                  try simp only [Act.put, List.setIfInBounds_toArray, List.set_cons_zero, List.set_cons_succ]
                  refine wpAnyH_ready (rs := [23]) (by kernel_rfl) (by simp) ?_
                  refine (AllReadyH.cons (o := { dst := none, op := Op.store 63 (Operand.tmp 7) (Operand.tmp 47), type := 0, pos := "ref.go:337", after := #[{ on := 20, ground := Ground.data }, { on := 3, ground := Ground.data }, { on := 0, ground := Ground.phase }, { on := 1, ground := Ground.phase }, { on := 2, ground := Ground.phase }, { on := 3, ground := Ground.phase }, { on := 4, ground := Ground.textOnly Departure.lateStores }, { on := 5, ground := Ground.textOnly Departure.lateStores }, { on := 6, ground := Ground.textOnly Departure.lateStores }, { on := 7, ground := Ground.textOnly Departure.lateStores }, { on := 8, ground := Ground.textOnly Departure.lateStoresUnsure }, { on := 9, ground := Ground.textOnly Departure.lateStores }, { on := 10, ground := Ground.textOnly Departure.lateStores }, { on := 11, ground := Ground.textOnly Departure.lateStores }, { on := 12, ground := Ground.textOnly Departure.lateStores }, { on := 13, ground := Ground.textOnly Departure.lateStores }, { on := 14, ground := Ground.textOnly Departure.lateStores }, { on := 15, ground := Ground.textOnly Departure.lateStores }, { on := 16, ground := Ground.textOnly Departure.lateStoresUnsure }, { on := 17, ground := Ground.textOnly Departure.lateStores }, { on := 18, ground := Ground.textOnly Departure.lateStores }, { on := 19, ground := Ground.textOnly Departure.lateStores }, { on := 20, ground := Ground.phase }, { on := 21, ground := Ground.phase }, { on := 22, ground := Ground.phase }], guard := none }) rfl (fun K hK => ?_) AllReadyH.nil)
                  refine wp_storeA _ _ _ rfl G20 [A0, A1] [0, 0] rfl rfl i20 rfl Tryz.infoGauss ?_
                  obtain ⟨wz23, hwz⟩ : ∃ v, v = World.setRow wz21 G20 (ia [A0, A1]) := ⟨_, rfl⟩
                  rw [← hwz]
                  have hbz23 : Below wr.heap.size wr wz23 := by rw [hwz]; exact below_rowA hbz21 g20 _
                  replace i20 := BlkI.setRowA i20 [A0, A1]
                  rw [← hwz] at i20
                  replace i21 := BlkI.setRowO i21 (B' := G20) (by omega) (ia [A0, A1])
                  rw [← hwz] at i21
                  replace i22 := BlkI.setRowO i22 (B' := G20) (by omega) (ia [A0, A1])
                  rw [← hwz] at i22
                  clear hwz
                  refine hK.out _ _ ⟨cellb c0 hbz23, cellb c1 hbz23, cellb c2 hbz23, cellb c3 hbz23, cellb c4 hbz23, cellb c5 hbz23⟩ (fun hHeld4 => ?_)
                  clear hK K hHeld3
                  try simp only [Act.put, List.setIfInBounds_toArray, List.set_cons_zero, List.set_cons_succ]
                  refine wpAnyH_ready (rs := [24]) (by kernel_rfl) (by simp) ?_
                  refine (AllReadyH.cons (o := { dst := none, op := Op.store 63 (Operand.tmp 8) (Operand.tmp 55), type := 0, pos := "ref.go:337", after := #[{ on := 21, ground := Ground.data }, { on := 11, ground := Ground.data }, { on := 23, ground := Ground.chain }, { on := 0, ground := Ground.phase }, { on := 1, ground := Ground.phase }, { on := 2, ground := Ground.phase }, { on := 3, ground := Ground.phase }, { on := 4, ground := Ground.phase }, { on := 5, ground := Ground.phase }, { on := 6, ground := Ground.phase }, { on := 7, ground := Ground.phase }, { on := 8, ground := Ground.phase }, { on := 9, ground := Ground.phase }, { on := 10, ground := Ground.phase }, { on := 11, ground := Ground.phase }, { on := 12, ground := Ground.textOnly Departure.lateStores }, { on := 13, ground := Ground.textOnly Departure.lateStores }, { on := 14, ground := Ground.textOnly Departure.lateStores }, { on := 15, ground := Ground.textOnly Departure.lateStores }, { on := 16, ground := Ground.textOnly Departure.lateStoresUnsure }, { on := 17, ground := Ground.textOnly Departure.lateStores }, { on := 18, ground := Ground.textOnly Departure.lateStores }, { on := 19, ground := Ground.textOnly Departure.lateStores }, { on := 20, ground := Ground.phase }, { on := 21, ground := Ground.phase }, { on := 22, ground := Ground.phase }, { on := 23, ground := Ground.phase }], guard := none }) rfl (fun K hK => ?_) AllReadyH.nil)
                  refine wp_storeA _ _ _ rfl G21 [B0, B1] [0, 0] rfl rfl i21 rfl Tryz.infoGauss ?_
                  obtain ⟨wz24, hwz⟩ : ∃ v, v = World.setRow wz23 G21 (ia [B0, B1]) := ⟨_, rfl⟩
                  rw [← hwz]
                  have hbz24 : Below wr.heap.size wr wz24 := by rw [hwz]; exact below_rowA hbz23 g21 _
                  replace i21 := BlkI.setRowA i21 [B0, B1]
                  rw [← hwz] at i21
                  replace i20 := BlkI.setRowO i20 (B' := G21) (by omega) (ia [B0, B1])
                  rw [← hwz] at i20
                  replace i22 := BlkI.setRowO i22 (B' := G21) (by omega) (ia [B0, B1])
                  rw [← hwz] at i22
                  clear hwz
                  refine hK.out _ _ ⟨cellb c0 hbz24, cellb c1 hbz24, cellb c2 hbz24, cellb c3 hbz24, cellb c4 hbz24, cellb c5 hbz24⟩ (fun hHeld5 => ?_)
                  clear hK K hHeld4
                  try simp only [Act.put, List.setIfInBounds_toArray, List.set_cons_zero, List.set_cons_succ]
                  refine wpAnyH_ready (rs := [25]) (by kernel_rfl) (by simp) ?_
                  refine (AllReadyH.cons (o := { dst := none, op := Op.store 63 (Operand.tmp 9) (Operand.tmp 63), type := 0, pos := "ref.go:337", after := #[{ on := 22, ground := Ground.data }, { on := 19, ground := Ground.data }, { on := 24, ground := Ground.chain }, { on := 0, ground := Ground.phase }, { on := 1, ground := Ground.phase }, { on := 2, ground := Ground.phase }, { on := 3, ground := Ground.phase }, { on := 4, ground := Ground.phase }, { on := 5, ground := Ground.phase }, { on := 6, ground := Ground.phase }, { on := 7, ground := Ground.phase }, { on := 8, ground := Ground.phase }, { on := 9, ground := Ground.phase }, { on := 10, ground := Ground.phase }, { on := 11, ground := Ground.phase }, { on := 12, ground := Ground.phase }, { on := 13, ground := Ground.phase }, { on := 14, ground := Ground.phase }, { on := 15, ground := Ground.phase }, { on := 16, ground := Ground.phase }, { on := 17, ground := Ground.phase }, { on := 18, ground := Ground.phase }, { on := 19, ground := Ground.phase }, { on := 20, ground := Ground.phase }, { on := 21, ground := Ground.phase }, { on := 22, ground := Ground.phase }, { on := 23, ground := Ground.phase }, { on := 24, ground := Ground.phase }], guard := none }) rfl (fun K hK => ?_) AllReadyH.nil)
                  refine wp_storeA _ _ _ rfl G22 [C0, C1] [0, 0] rfl rfl i22 rfl Tryz.infoGauss ?_
                  obtain ⟨wz25, hwz⟩ : ∃ v, v = World.setRow wz24 G22 (ia [C0, C1]) := ⟨_, rfl⟩
                  rw [← hwz]
                  have hbz25 : Below wr.heap.size wr wz25 := by rw [hwz]; exact below_rowA hbz24 g22 _
                  replace i22 := BlkI.setRowA i22 [C0, C1]
                  rw [← hwz] at i22
                  replace i20 := BlkI.setRowO i20 (B' := G22) (by omega) (ia [C0, C1])
                  rw [← hwz] at i20
                  replace i21 := BlkI.setRowO i21 (B' := G22) (by omega) (ia [C0, C1])
                  rw [← hwz] at i21
                  clear hwz
                  refine hK.out _ _ ⟨cellb c0 hbz25, cellb c1 hbz25, cellb c2 hbz25, cellb c3 hbz25, cellb c4 hbz25, cellb c5 hbz25⟩ (fun hHeld6 => ?_)
                  clear hK K hHeld5
                  try simp only [Act.put, List.setIfInBounds_toArray, List.set_cons_zero, List.set_cons_succ]
                  refine wpAnyH_done (by kernel_rfl) ?_ _
                  clear hHeld6
                  go_wp2_with fail
                  go_meet
                  exact ⟨G20, G21, G22, rfl, rfl, rfl, i20, i21, i22, hbz25⟩
                · go_simp
                  obtain ⟨wz21, hwz⟩ : ∃ v, v = wz22.alloc (Obj.cells #[.int .i64 0, .int .i64 0] 63) := ⟨_, rfl⟩
                  rw [← hwz]
                  have hl : Below wz22.heap.size wz22 wz21 := by rw [hwz]; exact below_new _ _
                  have hbz21 := bthen hbz22 hl
                  obtain ⟨G21, hG⟩ : ∃ G, G = wz22.heap.size := ⟨_, rfl⟩
                  have i21 : BlkI wz21 G21 63 [0, 0] := by rw [hwz, hG]; exact Blk.new _ _ _
                  have g21 : wr.heap.size ≤ G21 := by rw [hG]; exact (hbz22).size
                  try (have q2021 : G20 < G21 := by rw [hG]; exact Blk.lt i20)
                  try (have q2221 : G22 < G21 := by rw [hG]; exact Blk.lt i22)
                  rw [← hG]
                  clear hG
                  clear hwz
                  have i22 := i22.carry hl
                  clear hl
                  refine hK.out _ _ ⟨cellb c0 hbz21, cellb c1 hbz21, cellb c2 hbz21, cellb c3 hbz21, cellb c4 hbz21, cellb c5 hbz21⟩ (fun hHeld2 => ?_)
                  clear hK K hHeld1
                  try simp only [Act.put, List.setIfInBounds_toArray, List.set_cons_zero, List.set_cons_succ]
                  refine wpAnyH_ready (rs := [20]) (by kernel_rfl) (by simp) ?_
                  refine (AllReadyH.cons (o := { dst := some 7, op := Op.alloc 63, type := 0, pos := "ref.go:337", after := #[], guard := none }) rfl (fun K hK => ?_) AllReadyH.nil)
                  go_simp
                  obtain ⟨wz20, hwz⟩ : ∃ v, v = wz21.alloc (Obj.cells #[.int .i64 0, .int .i64 0] 63) := ⟨_, rfl⟩
                  rw [← hwz]
                  have hl : Below wz21.heap.size wz21 wz20 := by rw [hwz]; exact below_new _ _
                  have hbz20 := bthen hbz21 hl
                  obtain ⟨G20, hG⟩ : ∃ G, G = wz21.heap.size := ⟨_, rfl⟩
                  have i20 : BlkI wz20 G20 63 [0, 0] := by rw [hwz, hG]; exact Blk.new _ _ _
                  have g20 : wr.heap.size ≤ G20 := by rw [hG]; exact (hbz21).size
                  try (have q2120 : G21 < G20 := by rw [hG]; exact Blk.lt i21)
                  try (have q2220 : G22 < G20 := by rw [hG]; exact Blk.lt i22)
                  rw [← hG]
                  clear hG
                  clear hwz
                  have i22 := i22.carry hl
                  have i21 := i21.carry hl
                  clear hl
                  refine hK.out _ _ ⟨cellb c0 hbz20, cellb c1 hbz20, cellb c2 hbz20, cellb c3 hbz20, cellb c4 hbz20, cellb c5 hbz20⟩ (fun hHeld3 => ?_)
                  clear hK K hHeld2
                  try simp only [Act.put, List.setIfInBounds_toArray, List.set_cons_zero, List.set_cons_succ]
                  refine wpAnyH_ready (rs := [23]) (by kernel_rfl) (by simp) ?_
                  refine (AllReadyH.cons (o := { dst := none, op := Op.store 63 (Operand.tmp 7) (Operand.tmp 47), type := 0, pos := "ref.go:337", after := #[{ on := 20, ground := Ground.data }, { on := 3, ground := Ground.data }, { on := 0, ground := Ground.phase }, { on := 1, ground := Ground.phase }, { on := 2, ground := Ground.phase }, { on := 3, ground := Ground.phase }, { on := 4, ground := Ground.textOnly Departure.lateStores }, { on := 5, ground := Ground.textOnly Departure.lateStores }, { on := 6, ground := Ground.textOnly Departure.lateStores }, { on := 7, ground := Ground.textOnly Departure.lateStores }, { on := 8, ground := Ground.textOnly Departure.lateStoresUnsure }, { on := 9, ground := Ground.textOnly Departure.lateStores }, { on := 10, ground := Ground.textOnly Departure.lateStores }, { on := 11, ground := Ground.textOnly Departure.lateStores }, { on := 12, ground := Ground.textOnly Departure.lateStores }, { on := 13, ground := Ground.textOnly Departure.lateStores }, { on := 14, ground := Ground.textOnly Departure.lateStores }, { on := 15, ground := Ground.textOnly Departure.lateStores }, { on := 16, ground := Ground.textOnly Departure.lateStoresUnsure }, { on := 17, ground := Ground.textOnly Departure.lateStores }, { on := 18, ground := Ground.textOnly Departure.lateStores }, { on := 19, ground := Ground.textOnly Departure.lateStores }, { on := 20, ground := Ground.phase }, { on := 21, ground := Ground.phase }, { on := 22, ground := Ground.phase }], guard := none }) rfl (fun K hK => ?_) AllReadyH.nil)
                  refine wp_storeA _ _ _ rfl G20 [A0, A1] [0, 0] rfl rfl i20 rfl Tryz.infoGauss ?_
                  obtain ⟨wz23, hwz⟩ : ∃ v, v = World.setRow wz20 G20 (ia [A0, A1]) := ⟨_, rfl⟩
                  rw [← hwz]
                  have hbz23 : Below wr.heap.size wr wz23 := by rw [hwz]; exact below_rowA hbz20 g20 _
                  replace i20 := BlkI.setRowA i20 [A0, A1]
                  rw [← hwz] at i20
                  replace i21 := BlkI.setRowO i21 (B' := G20) (by omega) (ia [A0, A1])
                  rw [← hwz] at i21
                  replace i22 := BlkI.setRowO i22 (B' := G20) (by omega) (ia [A0, A1])
                  rw [← hwz] at i22
                  clear hwz
                  refine hK.out _ _ ⟨cellb c0 hbz23, cellb c1 hbz23, cellb c2 hbz23, cellb c3 hbz23, cellb c4 hbz23, cellb c5 hbz23⟩ (fun hHeld4 => ?_)
                  clear hK K hHeld3
                  try simp only [Act.put, List.setIfInBounds_toArray, List.set_cons_zero, List.set_cons_succ]
                  refine wpAnyH_ready (rs := [24]) (by kernel_rfl) (by simp) ?_
                  refine (AllReadyH.cons (o := { dst := none, op := Op.store 63 (Operand.tmp 8) (Operand.tmp 55), type := 0, pos := "ref.go:337", after := #[{ on := 21, ground := Ground.data }, { on := 11, ground := Ground.data }, { on := 23, ground := Ground.chain }, { on := 0, ground := Ground.phase }, { on := 1, ground := Ground.phase }, { on := 2, ground := Ground.phase }, { on := 3, ground := Ground.phase }, { on := 4, ground := Ground.phase }, { on := 5, ground := Ground.phase }, { on := 6, ground := Ground.phase }, { on := 7, ground := Ground.phase }, { on := 8, ground := Ground.phase }, { on := 9, ground := Ground.phase }, { on := 10, ground := Ground.phase }, { on := 11, ground := Ground.phase }, { on := 12, ground := Ground.textOnly Departure.lateStores }, { on := 13, ground := Ground.textOnly Departure.lateStores }, { on := 14, ground := Ground.textOnly Departure.lateStores }, { on := 15, ground := Ground.textOnly Departure.lateStores }, { on := 16, ground := Ground.textOnly Departure.lateStoresUnsure }, { on := 17, ground := Ground.textOnly Departure.lateStores }, { on := 18, ground := Ground.textOnly Departure.lateStores }, { on := 19, ground := Ground.textOnly Departure.lateStores }, { on := 20, ground := Ground.phase }, { on := 21, ground := Ground.phase }, { on := 22, ground := Ground.phase }, { on := 23, ground := Ground.phase }], guard := none }) rfl (fun K hK => ?_) AllReadyH.nil)
                  refine wp_storeA _ _ _ rfl G21 [B0, B1] [0, 0] rfl rfl i21 rfl Tryz.infoGauss ?_
                  obtain ⟨wz24, hwz⟩ : ∃ v, v = World.setRow wz23 G21 (ia [B0, B1]) := ⟨_, rfl⟩
                  rw [← hwz]
                  have hbz24 : Below wr.heap.size wr wz24 := by rw [hwz]; exact below_rowA hbz23 g21 _
                  replace i21 := BlkI.setRowA i21 [B0, B1]
                  rw [← hwz] at i21
                  replace i20 := BlkI.setRowO i20 (B' := G21) (by omega) (ia [B0, B1])
                  rw [← hwz] at i20
                  replace i22 := BlkI.setRowO i22 (B' := G21) (by omega) (ia [B0, B1])
                  rw [← hwz] at i22
                  clear hwz
                  refine hK.out _ _ ⟨cellb c0 hbz24, cellb c1 hbz24, cellb c2 hbz24, cellb c3 hbz24, cellb c4 hbz24, cellb c5 hbz24⟩ (fun hHeld5 => ?_)
                  clear hK K hHeld4
                  try simp only [Act.put, List.setIfInBounds_toArray, List.set_cons_zero, List.set_cons_succ]
                  refine wpAnyH_ready (rs := [25]) (by kernel_rfl) (by simp) ?_
                  refine (AllReadyH.cons (o := { dst := none, op := Op.store 63 (Operand.tmp 9) (Operand.tmp 63), type := 0, pos := "ref.go:337", after := #[{ on := 22, ground := Ground.data }, { on := 19, ground := Ground.data }, { on := 24, ground := Ground.chain }, { on := 0, ground := Ground.phase }, { on := 1, ground := Ground.phase }, { on := 2, ground := Ground.phase }, { on := 3, ground := Ground.phase }, { on := 4, ground := Ground.phase }, { on := 5, ground := Ground.phase }, { on := 6, ground := Ground.phase }, { on := 7, ground := Ground.phase }, { on := 8, ground := Ground.phase }, { on := 9, ground := Ground.phase }, { on := 10, ground := Ground.phase }, { on := 11, ground := Ground.phase }, { on := 12, ground := Ground.phase }, { on := 13, ground := Ground.phase }, { on := 14, ground := Ground.phase }, { on := 15, ground := Ground.phase }, { on := 16, ground := Ground.phase }, { on := 17, ground := Ground.phase }, { on := 18, ground := Ground.phase }, { on := 19, ground := Ground.phase }, { on := 20, ground := Ground.phase }, { on := 21, ground := Ground.phase }, { on := 22, ground := Ground.phase }, { on := 23, ground := Ground.phase }, { on := 24, ground := Ground.phase }], guard := none }) rfl (fun K hK => ?_) AllReadyH.nil)
                  refine wp_storeA _ _ _ rfl G22 [C0, C1] [0, 0] rfl rfl i22 rfl Tryz.infoGauss ?_
                  obtain ⟨wz25, hwz⟩ : ∃ v, v = World.setRow wz24 G22 (ia [C0, C1]) := ⟨_, rfl⟩
                  rw [← hwz]
                  have hbz25 : Below wr.heap.size wr wz25 := by rw [hwz]; exact below_rowA hbz24 g22 _
                  replace i22 := BlkI.setRowA i22 [C0, C1]
                  rw [← hwz] at i22
                  replace i20 := BlkI.setRowO i20 (B' := G22) (by omega) (ia [C0, C1])
                  rw [← hwz] at i20
                  replace i21 := BlkI.setRowO i21 (B' := G22) (by omega) (ia [C0, C1])
                  rw [← hwz] at i21
                  clear hwz
                  refine hK.out _ _ ⟨cellb c0 hbz25, cellb c1 hbz25, cellb c2 hbz25, cellb c3 hbz25, cellb c4 hbz25, cellb c5 hbz25⟩ (fun hHeld6 => ?_)
                  clear hK K hHeld5
                  try simp only [Act.put, List.setIfInBounds_toArray, List.set_cons_zero, List.set_cons_succ]
                  refine wpAnyH_done (by kernel_rfl) ?_ _
                  clear hHeld6
                  go_wp2_with fail
                  go_meet
                  exact ⟨G20, G21, G22, rfl, rfl, rfl, i20, i21, i22, hbz25⟩
            case rest =>
              obtain ⟨b7, b8, b9, rfl, rfl, rfl, i7, i8, i9, hbn⟩ := hcut
              replace hB := bthen hB hbn
              clear hbn c0 c1 c2 c3 c4 c5
              have x0 : wc.cell? ⟨b7, 0, none⟩ = some (.int .i64 A0) := BlkI.cell i7 (j := 0) (by simp)
              have x1 : wc.cell? ⟨b7, 1, none⟩ = some (.int .i64 A1) := BlkI.cell i7 (j := 1) (by simp)
              have y0 : wc.cell? ⟨b8, 0, none⟩ = some (.int .i64 B0) := BlkI.cell i8 (j := 0) (by simp)
              have y1 : wc.cell? ⟨b8, 1, none⟩ = some (.int .i64 B1) := BlkI.cell i8 (j := 1) (by simp)
              have z0 : wc.cell? ⟨b9, 0, none⟩ = some (.int .i64 C0) := BlkI.cell i9 (j := 0) (by simp)
              have z1 : wc.cell? ⟨b9, 1, none⟩ = some (.int .i64 C1) := BlkI.cell i9 (j := 1) (by simp)
              go_wp2_with fail
              refine (TX.out wc).mono ?_
              rintro e w3 ⟨rfl, hb⟩
              replace i7 := i7.carry hb
              replace i8 := i8.carry hb
              replace hB := bthen hB hb
              clear x0 x1 y0 y1 z0 z1 i9 hb TX
              by_cases hs : X ≤ 0
              · have hE : E = 11 := by rw [HE3.out]; exact polC_bad l q (by rw [← HN.out]; exact hlt) (by rw [HPB.out]; simp [nposB, hs])
                have HE := Lib.hid hE
                clear hE
                go_wp2
                go_ret
                exact ⟨ret_int HE.out.symm, hB⟩
              · go_wp2_with fail
                go_loopw [10] (fun i wr => ∃ j : Nat, j ≤ k ∧ i = .int .i64 j ∧ (l.take j).any (fun p => negB (sideE (A0, A1, B0, B1) p 1)) = false ∧ BlkI wr b7 63 [A0, A1] ∧ BlkI wr b8 63 [B0, B1] ∧ Below w.heap.size w wr) (fun i _ => k - (intOf i).toNat)
                case atStart => exact ⟨0, by omega, rfl, rfl, i7, i8, hB⟩
                case round =>
                  clear i7 i8 hB
                  obtain ⟨j, hj, rfl, hno, i7, i8, hB⟩ := hrel
                  have HNO := Lib.hid hno
                  clear hno
                  by_cases hlj : j < k
                  · obtain ⟨b3, off3, p, hbb, hp, cp0, cp1⟩ := HC.out j hlj
                    obtain ⟨rfl, rfl⟩ : b3 = b'' ∧ off3 = off'' := by simp at hbb; exact ⟨hbb.1.symm, hbb.2.symm⟩
                    replace cp0 := cellb cp0 hB
                    replace cp1 := cellb cp1 hB
                    have hcp := HCR.out p (List.mem_of_getElem? hp)
                    have TP := Lib.hid (fun W => HCC.out p W)
                    rw [hcp] at TP
                    have HP := Lib.hid hp
                    generalize hsd : sideE (A0, A1, B0, B1) p 1 = sd at TP
                    have HSD := Lib.hid hsd
                    clear hcp hp hsd hbb
                    obtain ⟨p0, p1⟩ := p
                    simp only at cp0 cp1 TP
                    have d2 : (j : Int) < (k : Int) := by omega
                    have x0 : wr.cell? ⟨b7, 0, none⟩ = some (.int .i64 A0) := BlkI.cell i7 (j := 0) (by simp)
                    have x1 : wr.cell? ⟨b7, 1, none⟩ = some (.int .i64 A1) := BlkI.cell i7 (j := 1) (by simp)
                    have y0 : wr.cell? ⟨b8, 0, none⟩ = some (.int .i64 B0) := BlkI.cell i8 (j := 0) (by simp)
                    have y1 : wr.cell? ⟨b8, 1, none⟩ = some (.int .i64 B1) := BlkI.cell i8 (j := 1) (by simp)
                    go_upto_region 19 with fail
                    refine wp_region_E 99 (by kernel_rfl) ?_
                    obtain ⟨wz, hwz⟩ : ∃ v, v = wr.drew := ⟨_, rfl⟩
                    rw [← hwz]
                    have hlz : Below wr.heap.size wr wz := by rw [hwz]; exact (Below.refl _ _).drew
                    have hbz := bthen hB hlz
                    have x0 := cellb x0 hlz
                    have x1 := cellb x1 hlz
                    have y0 := cellb y0 hlz
                    have y1 := cellb y1 hlz
                    have cp0 := cellb cp0 hlz
                    have cp1 := cellb cp1 hlz
                    have i7 := i7.carry hlz
                    have i8 := i8.carry hlz
                    clear hwz hlz
                    refine wpAnyE_take (i := 0) (oi := { dst := some 76, op := Op.load 63 (Operand.tmp 7), type := 63, pos := "ref.go:342", after := #[], guard := none }) (v := ?_) rfl (by kernel_rfl) (by kernel_rfl) (by kernel_rfl) (by kernel_rfl) (fun _ _ _ h => h) (Or.inl ⟨by rfl, ?_⟩) ?_
                    rotate_left
                    · (intro w hE; have x0 := cellb x0 hE; have x1 := cellb x1 hE; have y0 := cellb y0 hE; have y1 := cellb y1 hE; have cp0 := cellb cp0 hE; have cp1 := cellb cp1 hE; (try dsimp only); go_simp); (try with_reducible rfl)
                    try simp only [Act.put, List.setIfInBounds_toArray, List.set_cons_zero, List.set_cons_succ]
                    refine wpAnyE_take (i := 1) (oi := { dst := some 77, op := Op.load 63 (Operand.tmp 8), type := 63, pos := "ref.go:342", after := #[], guard := none }) (v := ?_) rfl (by kernel_rfl) (by kernel_rfl) (by kernel_rfl) (by kernel_rfl) (fun _ _ _ h => h) (Or.inl ⟨by rfl, ?_⟩) ?_
                    rotate_left
                    · (intro w hE; have x0 := cellb x0 hE; have x1 := cellb x1 hE; have y0 := cellb y0 hE; have y1 := cellb y1 hE; have cp0 := cellb cp0 hE; have cp1 := cellb cp1 hE; (try dsimp only); go_simp); (try with_reducible rfl)
                    try simp only [Act.put, List.setIfInBounds_toArray, List.set_cons_zero, List.set_cons_succ]
                    refine wpAnyE_take (i := 2) (oi := { dst := some 78, op := Op.load 63 (Operand.tmp 7), type := 63, pos := "ref.go:342", after := #[], guard := none }) (v := ?_) rfl (by kernel_rfl) (by kernel_rfl) (by kernel_rfl) (by kernel_rfl) (fun _ _ _ h => h) (Or.inl ⟨by rfl, ?_⟩) ?_
                    rotate_left
                    · (intro w hE; have x0 := cellb x0 hE; have x1 := cellb x1 hE; have y0 := cellb y0 hE; have y1 := cellb y1 hE; have cp0 := cellb cp0 hE; have cp1 := cellb cp1 hE; (try dsimp only); go_simp); (try with_reducible rfl)
                    try simp only [Act.put, List.setIfInBounds_toArray, List.set_cons_zero, List.set_cons_succ]
                    refine wpAnyE_take (i := 3) (oi := { dst := some 79, op := Op.move (Operand.tmp 0), type := 25, pos := "ref.go:342", after := #[], guard := none }) (v := ?_) rfl (by kernel_rfl) (by kernel_rfl) (by kernel_rfl) (by kernel_rfl) (fun _ _ _ h => h) (Or.inl ⟨by rfl, ?_⟩) ?_
                    rotate_left
                    · (intro w hE; have x0 := cellb x0 hE; have x1 := cellb x1 hE; have y0 := cellb y0 hE; have y1 := cellb y1 hE; have cp0 := cellb cp0 hE; have cp1 := cellb cp1 hE; (try dsimp only); go_simp); (try with_reducible rfl)
                    try simp only [Act.put, List.setIfInBounds_toArray, List.set_cons_zero, List.set_cons_succ]
                    refine wpAnyE_take (i := 4) (oi := { dst := some 80, op := Op.move (Operand.tmp 10), type := 3, pos := "ref.go:342", after := #[], guard := none }) (v := ?_) rfl (by kernel_rfl) (by kernel_rfl) (by kernel_rfl) (by kernel_rfl) (fun _ _ _ h => h) (Or.inl ⟨by rfl, ?_⟩) ?_
                    rotate_left
                    · (intro w hE; have x0 := cellb x0 hE; have x1 := cellb x1 hE; have y0 := cellb y0 hE; have y1 := cellb y1 hE; have cp0 := cellb cp0 hE; have cp1 := cellb cp1 hE; (try dsimp only); go_simp); (try with_reducible rfl)
                    try simp only [Act.put, List.setIfInBounds_toArray, List.set_cons_zero, List.set_cons_succ]
                    refine wpAnyE_take (i := 5) (oi := { dst := some 81, op := Op.indexAddr 25 (Operand.tmp 79) (Operand.tmp 80), type := 0, pos := "ref.go:342", after := #[{ on := 3, ground := Ground.data }, { on := 4, ground := Ground.data }], guard := none }) (v := ?_) rfl (by kernel_rfl) (by kernel_rfl) (by kernel_rfl) (by kernel_rfl) (fun _ _ _ h => h) (Or.inl ⟨by rfl, ?_⟩) ?_
                    rotate_left
                    · (intro w hE; have x0 := cellb x0 hE; have x1 := cellb x1 hE; have y0 := cellb y0 hE; have y1 := cellb y1 hE; have cp0 := cellb cp0 hE; have cp1 := cellb cp1 hE; (try dsimp only); go_simp); (try with_reducible rfl)
                    try simp only [Act.put, List.setIfInBounds_toArray, List.set_cons_zero, List.set_cons_succ]
                    refine wpAnyE_take (i := 6) (oi := { dst := some 82, op := Op.load 63 (Operand.tmp 81), type := 63, pos := "ref.go:342", after := #[{ on := 5, ground := Ground.data }], guard := none }) (v := ?_) rfl (by kernel_rfl) (by kernel_rfl) (by kernel_rfl) (by kernel_rfl) (fun _ _ _ h => h) (Or.inl ⟨by rfl, ?_⟩) ?_
                    rotate_left
                    · (intro w hE; have x0 := cellb x0 hE; have x1 := cellb x1 hE; have y0 := cellb y0 hE; have y1 := cellb y1 hE; have cp0 := cellb cp0 hE; have cp1 := cellb cp1 hE; (try dsimp only); go_simp); (try with_reducible rfl)
                    try simp only [Act.put, List.setIfInBounds_toArray, List.set_cons_zero, List.set_cons_succ]
                    refine wpAnyE_call (i := 7) (oi := { dst := some 83, op := Op.call { callee := Callee.value (Operand.func 20), args := #[Operand.tmp 76, Operand.tmp 77, Operand.tmp 78, Operand.tmp 82], argTypes := #[63, 63, 63, 63] }, type := 3, pos := "ref.go:342", after := #[{ on := 0, ground := Ground.data }, { on := 1, ground := Ground.data }, { on := 2, ground := Ground.data }, { on := 6, ground := Ground.data }], guard := none }) (fun w hE => TP.out w) rfl (by kernel_rfl) (by kernel_rfl) (by kernel_rfl) (by kernel_rfl) (fun _ _ _ h => h) (by rfl) (fun w hE => by (try dsimp only); go_simp) ?_
                    try simp only [Act.put, List.setIfInBounds_toArray, List.set_cons_zero, List.set_cons_succ]
                    refine wpAnyE_take (i := 8) (oi := { dst := some 84, op := Op.binOp BinOp.lss 3 (Operand.tmp 83) (Operand.const (Value.int IntKind.i64 0)) 3, type := 4, pos := "ref.go:342", after := #[{ on := 7, ground := Ground.data }], guard := none }) (v := ?_) rfl (by kernel_rfl) (by kernel_rfl) (by kernel_rfl) (by kernel_rfl) (fun _ _ _ h => h) (Or.inl ⟨by rfl, ?_⟩) ?_
                    rotate_left
                    · (intro w hE; have x0 := cellb x0 hE; have x1 := cellb x1 hE; have y0 := cellb y0 hE; have y1 := cellb y1 hE; have cp0 := cellb cp0 hE; have cp1 := cellb cp1 hE; (try dsimp only); go_simp); (try with_reducible rfl)
                    try simp only [Act.put, List.setIfInBounds_toArray, List.set_cons_zero, List.set_cons_succ]
                    refine wpAnyE_done (by kernel_rfl) (fun wy1 hE => ?_) _
                    have hbz1 := bthen hbz hE
                    have x0 := cellb x0 hE
                    have x1 := cellb x1 hE
                    have y0 := cellb y0 hE
                    have y1 := cellb y1 hE
                    have cp0 := cellb cp0 hE
                    have cp1 := cellb cp1 hE
                    have i7 := i7.carry hE
                    have i8 := i8.carry hE
                    clear hE
                    have hB := hbz1
                    obtain ⟨W9, hW9⟩ : ∃ v, v = wy1 := ⟨_, rfl⟩
                    rw [← hW9] at hB i7 i8 ⊢
                    clear hW9 x0 x1 y0 y1 cp0 cp1
                    by_cases hneg : sd < 0
                    · have hE : E = 11 := by
                        rw [HE3.out]
                        refine polC_bad l q (by rw [← HN.out]; exact hlt) ?_
                        rw [HPB.out, Bool.or_eq_true]
                        exact Or.inr (any_take_cons HP.out (by rw [HSD.out]; simp [negB, hneg]))
                      have HE := Lib.hid hE
                      clear hE
                      go_wp2
                      go_ret
                      exact ⟨ret_int HE.out.symm, hB⟩
                    · have hno2 := anyX_take_succ (g := fun p => negB (sideE (A0, A1, B0, B1) p 1)) HP.out HNO.out (by show negB (sideE (A0, A1, B0, B1) (p0, p1) 1) = false; rw [HSD.out]; simp [negB]; omega)
                      have HNO2 := Lib.hid hno2
                      clear hno2
                      go_wp2
                      go_roundw
                      case rel => exact ⟨j + 1, by omega, by go_num, HNO2.out, i7, i8, hB⟩
                      case measure => simp [intOf]; omega
                  · obtain rfl : j = k := by omega
                    have hbk : ∀ i, i < q + 1 → polBad l i = false := fun i hi => by
                      rcases Nat.lt_or_ge i q with h | h
                      · exact HBAD.out i h
                      · obtain rfl : i = q := by omega
                        have hn2 := HNO.out
                        rw [HN.out, List.take_length] at hn2
                        rw [HPB.out, hn2]; simp [nposB, hs]
                    have HBK := Lib.hid hbk
                    clear hbk
                    go_wp2
                    go_roundw
                    case rel => exact ⟨q + 1, by omega, by go_num, HBK.out, hB⟩
                    case measure => simp [intOf]; omega
          · obtain rfl : q = k := by omega
            have hE : E = 0 := by rw [HE3.out]; exact polC_ok l (fun j hj => HBAD.out j (by rw [HN.out]; exact hj))
            have HE := Lib.hid hE
            clear hE
            go_wp2
            go_ret
            exact ⟨ret_int HE.out.symm, hB⟩
  · have z : (eN == 0) = false := by rw [beq_eq_false_iff_ne]; exact he
    have HNE := Lib.hid he
    go_wp2_with fail
    go_ret
    exact ⟨ret_int (by rw [HE.out, orE, if_neg HNE.out]), hB⟩
end

section
set_option linter.unusedSimpArgs false
set_option linter.unusedVariables false
open Go.RowKit

theorem ShortPolygonR_any (v : Value) (l : List (Int × Int)) (w : World) (hv : Pairs w v l) :
    Calls Tryz.prog 5 #[v] w fun e w' => e = .returned (.bool (decide ((l.length : Int) ≤ 9))) ∧ w = w' := by
  obtain ⟨a, cp, rfl, _, _⟩ := hv
  go_enter Tryz.func5, Tryz.ntmps5
  go_wp2
  go_ret
  exact ⟨rfl, rfl⟩
def dirE (d : Int × Int) : Int := firstE [pointE d, whenE (d.1 == 0 && d.2 == 0) 6]
/-- no edge has the point to its right. -/
def insR (l : List (Int × Int)) (p : Int × Int) : Bool := !((List.range l.length).any fun k => negB (crossF (l[k]?.getD (0, 0)) (l[(k + 1) % l.length]?.getD (0, 0)) (l[k]?.getD (0, 0)) p))
/-- the first of the greatest sums so far. -/
def bestN (l : List (Int × Int)) (d : Int × Int) : Nat → Nat
  | 0 => 0
  | k + 1 => bif decide (sumG d (l[bestN l d k]?.getD (0, 0)) < sumG d (l[k]?.getD (0, 0))) then k else bestN l d k
theorem bestN_lt (l : List (Int × Int)) (d : Int × Int) (k : Nat) : bestN l d k ≤ k := by
  induction k with
  | zero => exact Nat.le_refl _
  | succ k ih =>
    rw [bestN]
    cases decide (sumG d (l[bestN l d k]?.getD (0, 0)) < sumG d (l[k]?.getD (0, 0)))
    · exact Nat.le_trans ih (Nat.le_succ _)
    · exact Nat.le_succ _
end

end Go.Proofs.YtpkaoechbmbolaaGreatDoor

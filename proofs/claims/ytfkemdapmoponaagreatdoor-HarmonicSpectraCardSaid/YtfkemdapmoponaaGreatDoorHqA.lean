/- The reference: sides and points of a polygon; copies of slices of pairs. (printed by gen/harQa.py) -/
import Derived.Test.YtfkemdapmoponaaGreatDoorHpO
import Derived.Test.YtfkemdapmoponaaGreatDoorHarS
namespace Go.Proofs.YtfkemdapmoponaaGreatDoor
set_option linter.unusedSimpArgs false
set_option linter.unusedVariables false
open Go.RowKit

set_option maxRecDepth 100000 in
set_option maxHeartbeats 2000000 in
theorem cross_any0 (a0 a1 b0 b1 c0 c1 e0 e1 : Int) (w : World) :
    Calls Tryz.prog 86 #[.agg #[.int .i64 a0, .int .i64 a1], .agg #[.int .i64 b0, .int .i64 b1], .agg #[.int .i64 c0, .int .i64 c1], .agg #[.int .i64 e0, .int .i64 e1]] w fun e w' => e = .returned (.int .i64 (wrap64 (wrap64 (wrap64 (b0 - a0) * wrap64 (e1 - c1)) - wrap64 (wrap64 (b1 - a1) * wrap64 (e0 - c0))))) ∧ Below w.heap.size w w' := by
  go_enter Tryz.func86, Tryz.ntmps86
  go_upto_region 1 with fail
  obtain ⟨W1, hW1⟩ : ∃ v, v = World.alloc w (Obj.cells #[.int .i64 a0, .int .i64 a1] 48) := ⟨_, rfl⟩
  have kW1 : Below w.heap.size w W1 := by rw [hW1]; exact below_new _ _
  have iW1 : Blk W1 (w.heap.size) 48 [.int .i64 a0, .int .i64 a1] := by rw [hW1]; exact Blk.new _ _ _
  have sW1 : W1.heap.size = w.heap.size + 1 := by rw [hW1]; simp
  rw [← hW1]
  clear hW1
  obtain ⟨W2, hW2⟩ : ∃ v, v = World.alloc W1 (Obj.cells #[.int .i64 b0, .int .i64 b1] 48) := ⟨_, rfl⟩
  have kW2 : Below W1.heap.size W1 W2 := by rw [hW2]; exact below_new _ _
  have iW2 : Blk W2 (w.heap.size + 1) 48 [.int .i64 b0, .int .i64 b1] := by rw [hW2, ← sW1]; exact Blk.new _ _ _
  have sW2 : W2.heap.size = w.heap.size + 1 + 1 := by rw [hW2]; simp [sW1]
  rw [← hW2]
  clear hW2
  obtain ⟨W3, hW3⟩ : ∃ v, v = World.alloc W2 (Obj.cells #[.int .i64 c0, .int .i64 c1] 48) := ⟨_, rfl⟩
  have kW3 : Below W2.heap.size W2 W3 := by rw [hW3]; exact below_new _ _
  have iW3 : Blk W3 (w.heap.size + 1 + 1) 48 [.int .i64 c0, .int .i64 c1] := by rw [hW3, ← sW2]; exact Blk.new _ _ _
  have sW3 : W3.heap.size = w.heap.size + 1 + 1 + 1 := by rw [hW3]; simp [sW2]
  rw [← hW3]
  clear hW3
  obtain ⟨W4, hW4⟩ : ∃ v, v = World.alloc W3 (Obj.cells #[.int .i64 e0, .int .i64 e1] 48) := ⟨_, rfl⟩
  have kW4 : Below W3.heap.size W3 W4 := by rw [hW4]; exact below_new _ _
  have iW4 : Blk W4 (w.heap.size + 1 + 1 + 1) 48 [.int .i64 e0, .int .i64 e1] := by rw [hW4, ← sW3]; exact Blk.new _ _ _
  have sW4 : W4.heap.size = w.heap.size + 1 + 1 + 1 + 1 := by rw [hW4]; simp [sW3]
  rw [← hW4]
  clear hW4
  clear sW1 sW2 sW3 sW4
  have i1 := (((iW1.carry kW2).carry kW3).carry kW4)
  have i2 := ((iW2.carry kW3).carry kW4)
  have i3 := (iW3.carry kW4)
  have i4 := iW4
  have hB : Below w.heap.size w W4 := (bthen kW1 (bthen kW2 (bthen kW3 kW4)))
  clear iW1 kW1 iW2 kW2 iW3 kW3 iW4 kW4
  have d0 := i1.cell (j := 0) (v := .int .i64 a0) rfl
  have d1 := i1.cell (j := 1) (v := .int .i64 a1) rfl
  have d2 := i2.cell (j := 0) (v := .int .i64 b0) rfl
  have d3 := i2.cell (j := 1) (v := .int .i64 b1) rfl
  have d4 := i3.cell (j := 0) (v := .int .i64 c0) rfl
  have d5 := i3.cell (j := 1) (v := .int .i64 c1) rfl
  have d6 := i4.cell (j := 0) (v := .int .i64 e0) rfl
  have d7 := i4.cell (j := 1) (v := .int .i64 e1) rfl
  go_wp2_with fail
  go_ret
  exact ⟨rfl, hB⟩


def crossF (a b c d : Int × Int) : Int := wrap64 (wrap64 (wrap64 (b.1 - a.1) * wrap64 (d.2 - c.2)) - wrap64 (wrap64 (b.2 - a.2) * wrap64 (d.1 - c.1)))
theorem cross_any (a b c d : Int × Int) (w : World) : Calls Tryz.prog 86 #[.agg #[.int .i64 a.1, .int .i64 a.2], .agg #[.int .i64 b.1, .int .i64 b.2], .agg #[.int .i64 c.1, .int .i64 c.2], .agg #[.int .i64 d.1, .int .i64 d.2]] w fun e w' => e = .returned (.int .i64 (crossF a b c d)) ∧ Below w.heap.size w w' := cross_any0 a.1 a.2 b.1 b.2 c.1 c.2 d.1 d.2 w
/-- a point within the bounds. -/
def PtOk (p : Int × Int) : Prop := (-1000 ≤ p.1 ∧ p.1 ≤ 1000) ∧ (-1000 ≤ p.2 ∧ p.2 ≤ 1000)
theorem pointE_ok {p : Int × Int} (h : pointE p = 0) : PtOk p := by
  unfold pointE allE at h
  have hm := firstE_mapOk h
  exact ⟨withinE_zero (hm p.1 (by simp)), withinE_zero (hm p.2 (by simp))⟩
theorem diff2 {u v x y : Int} (hu : -2000 ≤ u ∧ u ≤ 2000) (hv : -2000 ≤ v ∧ v ≤ 2000) (hx : -2000 ≤ x ∧ x ≤ 2000) (hy : -2000 ≤ y ∧ y ≤ 2000) : wrap64 (wrap64 (u * v) - wrap64 (x * y)) = u * v - x * y := by
  have a := mulBd (A := 2000) (B := 2000) hu hv
  have b := mulBd (A := 2000) (B := 2000) hx hy
  rw [wrapSm (x := u * v) (by omega), wrapSm (x := x * y) (by omega), wrapSm (by omega)]
theorem cross_ex {a b c d : Int × Int} (ha : PtOk a) (hb : PtOk b) (hc : PtOk c) (hd : PtOk d) : crossF a b c d = (b.1 - a.1) * (d.2 - c.2) - (b.2 - a.2) * (d.1 - c.1) := by
  unfold PtOk at *
  unfold crossF
  rw [wrapSm (x := b.1 - a.1) (by omega), wrapSm (x := d.2 - c.2) (by omega), wrapSm (x := b.2 - a.2) (by omega), wrapSm (x := d.1 - c.1) (by omega)]
  exact diff2 (by omega) (by omega) (by omega) (by omega)
theorem side_ex {a b p : Int × Int} (ha : PtOk a) (hb : PtOk b) (hp : PtOk p) : sideE (a.1, a.2, b.1, b.2) p 1 = (b.1 - a.1) * (p.2 - a.2) - (b.2 - a.2) * (p.1 - a.1) := by
  unfold PtOk at *
  unfold sideE
  simp only [Int.one_mul]
  rw [wrapSm (x := a.2) (by omega), wrapSm (x := a.1) (by omega), wrapSm (x := b.1 - a.1) (by omega), wrapSm (x := p.2 - a.2) (by omega), wrapSm (x := b.2 - a.2) (by omega), wrapSm (x := p.1 - a.1) (by omega)]
  exact diff2 (by omega) (by omega) (by omega) (by omega)
theorem cross_side {a b p : Int × Int} (ha : PtOk a) (hb : PtOk b) (hp : PtOk p) : crossF a b a p = sideE (a.1, a.2, b.1, b.2) p 1 := by rw [cross_ex ha hb ha hp, side_ex ha hb hp]
theorem cross_turn {a b c : Int × Int} (ha : PtOk a) (hb : PtOk b) (hc : PtOk c) : crossF a b b c = sideE (a.1, a.2, b.1, b.2) c 1 := by
  rw [cross_ex ha hb hb hc, side_ex ha hb hc]
  obtain ⟨a0, a1⟩ := a
  obtain ⟨b0, b1⟩ := b
  obtain ⟨c0, c1⟩ := c
  simp only
  grind
set_option maxRecDepth 100000 in
set_option maxHeartbeats 1000000 in
theorem CheckPointR_any (p : Int × Int) (w : World) :
    Calls Tryz.prog 25 #[.agg #[.int .i64 p.1, .int .i64 p.2]] w fun e w' => e = .returned (.int .i64 (pointE p)) ∧ Below w.heap.size w w' := by
  obtain ⟨a, b⟩ := p
  have T1 := Lib.hid (fun W => CheckRange_any a (-1000) 1000 W)
  have T2 := Lib.hid (fun W => CheckRange_any b (-1000) 1000 W)
  have hpe : pointE (a, b) = firstE [withinE a (-1000) 1000, withinE b (-1000) 1000] := rfl
  rw [hpe]
  clear hpe
  generalize withinE a (-1000) 1000 = e1 at T1 ⊢
  generalize withinE b (-1000) 1000 = e2 at T2 ⊢
  have TF := Lib.hid (fun (u : Value) (W : World) (h : Ints W u [e1, e2]) => FirstR_any u [e1, e2] W (by simp) h)
  generalize firstE [e1, e2] = E at TF ⊢
  simp only
  go_enter Tryz.func25, Tryz.ntmps25
  go_upto_region 1 with fail
  obtain ⟨W1, hW1⟩ : ∃ v, v = World.alloc w (Obj.cells #[.int .i64 a, .int .i64 b] 48) := ⟨_, rfl⟩
  have kW1 : Below w.heap.size w W1 := by rw [hW1]; exact below_new _ _
  have iW1 : Blk W1 (w.heap.size) 48 [.int .i64 a, .int .i64 b] := by rw [hW1]; exact Blk.new _ _ _
  have sW1 : W1.heap.size = w.heap.size + 1 := by rw [hW1]; simp
  rw [← hW1]
  clear hW1
  have a0 := iW1.cell (j := 0) (v := .int .i64 a) rfl
  have a1 := iW1.cell (j := 1) (v := .int .i64 b) rfl
  refine wp_region_E 99 (by kernel_rfl) ?_
  obtain ⟨wz, hwz⟩ : ∃ v, v = W1.drew := ⟨_, rfl⟩
  rw [← hwz]
  have hlz : Below W1.heap.size W1 wz := by rw [hwz]; exact (Below.refl _ _).drew
  have hbz := bthen kW1 hlz
  have a0 := cellb a0 hlz
  have a1 := cellb a1 hlz
  clear hwz hlz
  refine wpAnyE_take (i := 0) (oi := { dst := some 3, op := Op.fieldAddr 48 (Operand.tmp 1) 0, type := 0, pos := "ref.go:323", after := #[], guard := none }) (v := ?_) rfl (by kernel_rfl) (by kernel_rfl) (by kernel_rfl) (by kernel_rfl) (fun _ _ _ h => h) (Or.inl ⟨by rfl, ?_⟩) ?_
  rotate_left
  · (intro w hE; have a0 := cellb a0 hE; have a1 := cellb a1 hE; (try dsimp only); go_simp); (try with_reducible rfl)
  try simp only [Act.put, List.setIfInBounds_toArray, List.set_cons_zero, List.set_cons_succ]
  refine wpAnyE_take (i := 1) (oi := { dst := some 4, op := Op.load 3 (Operand.tmp 3), type := 3, pos := "ref.go:323", after := #[{ on := 0, ground := Ground.data }], guard := none }) (v := ?_) rfl (by kernel_rfl) (by kernel_rfl) (by kernel_rfl) (by kernel_rfl) (fun _ _ _ h => h) (Or.inl ⟨by rfl, ?_⟩) ?_
  rotate_left
  · (intro w hE; have a0 := cellb a0 hE; have a1 := cellb a1 hE; (try dsimp only); go_simp); (try with_reducible rfl)
  try simp only [Act.put, List.setIfInBounds_toArray, List.set_cons_zero, List.set_cons_succ]
  refine wpAnyE_take (i := 3) (oi := { dst := some 6, op := Op.fieldAddr 48 (Operand.tmp 1) 1, type := 0, pos := "ref.go:323", after := #[], guard := none }) (v := ?_) rfl (by kernel_rfl) (by kernel_rfl) (by kernel_rfl) (by kernel_rfl) (fun _ _ _ h => h) (Or.inl ⟨by rfl, ?_⟩) ?_
  rotate_left
  · (intro w hE; have a0 := cellb a0 hE; have a1 := cellb a1 hE; (try dsimp only); go_simp); (try with_reducible rfl)
  try simp only [Act.put, List.setIfInBounds_toArray, List.set_cons_zero, List.set_cons_succ]
  refine wpAnyE_take (i := 4) (oi := { dst := some 7, op := Op.load 3 (Operand.tmp 6), type := 3, pos := "ref.go:323", after := #[{ on := 3, ground := Ground.data }], guard := none }) (v := ?_) rfl (by kernel_rfl) (by kernel_rfl) (by kernel_rfl) (by kernel_rfl) (fun _ _ _ h => h) (Or.inl ⟨by rfl, ?_⟩) ?_
  rotate_left
  · (intro w hE; have a0 := cellb a0 hE; have a1 := cellb a1 hE; (try dsimp only); go_simp); (try with_reducible rfl)
  try simp only [Act.put, List.setIfInBounds_toArray, List.set_cons_zero, List.set_cons_succ]
  refine wpAnyE_call (i := 2) (oi := { dst := some 5, op := Op.call { callee := Callee.value (Operand.func 13), args := #[Operand.tmp 4, Operand.const (Value.int IntKind.i64 (-1000)), Operand.const (Value.int IntKind.i64 1000)], argTypes := #[3, 3, 3] }, type := 3, pos := "ref.go:323", after := #[{ on := 1, ground := Ground.data }], guard := none }) (fun w hE => ofPure (T1.out w)) rfl (by kernel_rfl) (by kernel_rfl) (by kernel_rfl) (by kernel_rfl) (fun _ _ _ h => h) (by rfl) (fun w hE => by (try dsimp only); go_simp) ?_
  try simp only [Act.put, List.setIfInBounds_toArray, List.set_cons_zero, List.set_cons_succ]
  refine wpAnyE_call (i := 5) (oi := { dst := some 8, op := Op.call { callee := Callee.value (Operand.func 13), args := #[Operand.tmp 7, Operand.const (Value.int IntKind.i64 (-1000)), Operand.const (Value.int IntKind.i64 1000)], argTypes := #[3, 3, 3] }, type := 3, pos := "ref.go:323", after := #[{ on := 4, ground := Ground.data }, { on := 2, ground := Ground.chain }], guard := none }) (fun w hE => ofPure (T2.out w)) rfl (by kernel_rfl) (by kernel_rfl) (by kernel_rfl) (by kernel_rfl) (fun _ _ _ h => h) (by rfl) (fun w hE => by (try dsimp only); go_simp) ?_
  try simp only [Act.put, List.setIfInBounds_toArray, List.set_cons_zero, List.set_cons_succ]
  refine wpAnyE_one (i := 6) (o := { dst := some 9, op := Op.buildSlice 72 2 #[(0, Operand.tmp 5), (1, Operand.tmp 8)], type := 72, pos := "ref.go:323", after := #[{ on := 2, ground := Ground.data }, { on := 5, ground := Ground.data }], guard := none }) (by kernel_rfl) rfl (fun wy1 hE K hK => ?_)
  have a0 := cellb a0 hE
  have a1 := cellb a1 hE
  have hbz1 := bthen hbz hE
  clear hE
  go_simp
  obtain ⟨wx1, hwz⟩ : ∃ v, v = wy1.alloc (Obj.cells #[.int .i64 e1, .int .i64 e2] 3) := ⟨_, rfl⟩
  rw [← hwz]
  have hl : Below wy1.heap.size wy1 wx1 := by rw [hwz]; exact below_new _ _
  have hcz1 := bthen hbz1 hl
  have iN : BlkI wx1 wy1.heap.size 3 [e1, e2] := by rw [hwz]; exact Blk.new _ _ _
  generalize wy1.heap.size = G at iN ⊢
  have a0 := cellb a0 hl
  have a1 := cellb a1 hl
  clear hwz
  refine hK _ _ (fun _ => hl) ?_
  clear hK K hl
  try simp only [Act.put, List.setIfInBounds_toArray, List.set_cons_zero, List.set_cons_succ]
  refine wpAnyE_call (i := 7) (oi := { dst := some 10, op := Op.call { callee := Callee.value (Operand.func 62), args := #[Operand.tmp 9], argTypes := #[72] }, type := 3, pos := "ref.go:323", after := #[{ on := 6, ground := Ground.data }, { on := 5, ground := Ground.chain }], guard := none }) (fun w hE => ofPure (TF.out _ w ((BlkI.ints iN rfl).carry hE))) rfl (by kernel_rfl) (by kernel_rfl) (by kernel_rfl) (by kernel_rfl) (fun _ _ _ h => h) (by rfl) (fun w hE => by (try dsimp only); go_simp) ?_
  try simp only [Act.put, List.setIfInBounds_toArray, List.set_cons_zero, List.set_cons_succ]
  refine wpAnyE_take (i := 8) (oi := { dst := some 2, op := Op.assign (Operand.tmp 10), type := 3, pos := "ref.go:323", after := #[{ on := 7, ground := Ground.data }, { on := 7, ground := Ground.chain }, { on := 0, ground := Ground.phase }, { on := 1, ground := Ground.phase }, { on := 2, ground := Ground.phase }, { on := 3, ground := Ground.phase }, { on := 4, ground := Ground.phase }, { on := 5, ground := Ground.phase }, { on := 6, ground := Ground.phase }, { on := 7, ground := Ground.phase }], guard := none }) (v := ?_) rfl (by kernel_rfl) (by kernel_rfl) (by kernel_rfl) (by kernel_rfl) (fun _ _ _ h => h) (Or.inl ⟨by rfl, ?_⟩) ?_
  rotate_left
  · (intro w hE; have a0 := cellb a0 hE; have a1 := cellb a1 hE; (try dsimp only); go_simp); (try with_reducible rfl)
  try simp only [Act.put, List.setIfInBounds_toArray, List.set_cons_zero, List.set_cons_succ]
  refine wpAnyE_done (by kernel_rfl) (fun wy2 hE => ?_) _
  have hbz2 := bthen hcz1 hE
  have a0 := cellb a0 hE
  have a1 := cellb a1 hE
  clear hE
  have hB := hbz2
  go_wp2_with fail
  go_ret
  exact ⟨rfl, hB⟩
theorem Pairs.src {P : Program} {w : World} {v : Value} {l : List (Int × Int)} (h : Pairs w v l) {tx e : TypeId} (hk : P.underlying tx = some (.slice e)) (h0 : 0 < l.length) : Src P 2 tx v l.length ((flat2 l).map (Value.int .i64)) w := by
  obtain ⟨b, off, cap, rfl, hcs⟩ := h.head h0
  exact Src.ofSlice w hk _ _ _ _ (by rw [List.length_map, flat2_length]) (fun j u hj => flat2_src hcs j u hj) (by intro u hu; simp at hu; obtain ⟨x, _, rfl⟩ := hu; rfl)
theorem Pairs.of_own {w : World} {base : Nat} {e : TypeId} {v : Value} {l : List (Int × Int)} (h : w.ownsRow base e 2 v l.length ((flat2 l).map (Value.int .i64))) : Pairs w v l := by
  rcases h.2 with ⟨hv, hn⟩ | ⟨g, cap, cur, hv, _, hg, hc, _, hcs, ht⟩
  · exact ⟨none, 0, by rw [hv, hn], by omega, fun h0 => by omega⟩
  · refine ⟨some ⟨g, 0, none⟩, cap, hv, hc, fun _ => ⟨g, 0, rfl, fun j x hj => ?_⟩⟩
    have hcell : ∀ (k : Nat) (u : Int), (flat2 l)[k]? = some u → w.cell? ⟨g, k, none⟩ = some (.int .i64 u) := fun k u hk => by
      have hlt : k < l.length * 2 := by
        have h1 := (List.getElem?_eq_some_iff.1 hk).1
        rw [flat2_length] at h1; exact h1
      have e := congrArg (fun x : List Value => x[k]?) ht
      simp only [List.getElem?_take] at e
      rw [if_pos hlt, List.getElem?_map, hk] at e
      have : cur[k]? = some (.int .i64 u) := by rw [← Array.getElem?_toList]; exact e
      simp [World.cell?, hg, this]
    obtain ⟨h0, h1⟩ := flat2_get l j x hj
    rw [Nat.zero_add]
    exact ⟨hcell _ _ h0, hcell _ _ h1⟩
theorem Pairs.nil' (w : World) (a : Option Addr) (c : Nat) : Pairs w (.slice a 0 c) [] := ⟨a, c, rfl, by simp, fun h => by simp at h⟩
theorem wpList_append_empty {P : Program} {ops : Array Oper} {rest : List Oper} {o : Oper} {a : Act} {w : World} {Q : Exit → Act → World → Prop} (hgd : o.guard = none) (s x : Operand) (t tx e e' : TypeId)
    (ho : o.op = .call { callee := .builtin .append, args := #[s, x], argTypes := #[t, tx] })
    (i : TypeInfo) (z : Value) (ht : P.underlying t = some (.slice e)) (htx : P.underlying tx = some (.slice e')) (hi : P.info? e = some i) (hz : i.zero = some z)
    (g og : Nat) (hs : a.eval s = .slice (some ⟨g, og, none⟩) 0 0) (xa : Option Addr) (c : Nat) (hx : a.eval x = .slice xa 0 c)
    (h : wpList P ops Q rest (a.put o.dst (.slice (some ⟨g, og, none⟩) 0 0)) w) : wpList P ops Q (o :: rest) a w := by
  refine wpList_plain hgd fun K hK => ?_
  have hr := run_append_empty (P := P) w t tx o.type e e' i z ht htx hi hz g og xa c
  unfold Oper.wp execOp
  simp only [ho, resolve, invoke, builtin, Sem.run_bind, Sem.run_pure, Result.andThen_ok, List.map_toArray, List.map_cons, List.map_nil, hs, hx, hr]
  exact hK _ _ h
theorem Tryz.infoGauss3 : (Tryz.prog.info? 48).map (fun i => (i.zero, i.size, i.bytes)) = some (some (.agg #[.int .i64 0, .int .i64 0]), 2, 16) := by kernel_rfl
theorem Tryz.undGausses : Tryz.prog.underlying 46 = some (.slice 48) := by kernel_rfl
set_option maxRecDepth 100000 in
set_option maxHeartbeats 1000000 in
theorem points_any (v : Value) (l : List (Int × Int)) (w : World) (hv : Pairs w v l) (hl : l.length ≤ 1000000) :
    Calls Tryz.prog 22 #[v] w fun e w' => (∃ u, e = .returned u ∧ Pairs w' u l) ∧ Below w.heap.size w w' := by
  obtain ⟨i0, hi, hz0, hz1, hz2⟩ := info_parts Tryz.infoGauss3
  rcases Nat.eq_zero_or_pos l.length with h0 | h0
  · obtain rfl : l = [] := List.length_eq_zero_iff.1 h0
    obtain ⟨a, cp, rfl, _, _⟩ := hv
    go_enter Tryz.func22, Tryz.ntmps22
    go_wp2_with (at_builtin; refine wpList_append_empty rfl (.tmp 3) (.tmp 4) 46 46 48 48 rfl i0 _ Tryz.undGausses Tryz.undGausses hi hz0 w.heap.size 0 rfl a cp rfl ?_)
    go_ret
    exact ⟨⟨_, rfl, Pairs.nil' _ _ _⟩, below_new _ _⟩
  · have k1 := below_new w (.cells #[] 48)
    go_enter Tryz.func22, Tryz.ntmps22
    go_wp2_with (at_builtin; refine wpList_append_freshO rfl (.tmp 3) (.tmp 4) 46 46 48 rfl i0 (.agg #[.int .i64 0, .int .i64 0]) 2 16 Tryz.undGausses hi hz0 hz1 hz2 rfl w.heap.size 0 rfl v l.length _ rfl ((hv.carry k1).src Tryz.undGausses h0) h0 (by unfold maxLen; omega) (by omega) ?_; intro u w2 hown hb)
    have hP := Pairs.of_own hown
    have hb' := bthen k1 hb
    go_ret
    exact ⟨⟨_, rfl, hP⟩, hb'⟩
set_option maxHeartbeats 400000 in
theorem firstL_any (v : Value) (l : List Int) (w : World) (hl : l.length ≤ 1000000000) (hv : Ints w v l) : Calls Tryz.prog 12 #[v] w fun r w' => r = .returned (.int .i64 (firstE l)) ∧ w = w' := by
  have TF := Lib.hid (FirstR_any v l w hl hv)
  clear hv
  go_enter Tryz.func12, Tryz.ntmps12
  go_wp2_with fail
  refine TF.out.mono ?_
  rintro e w' ⟨rfl, rfl⟩
  go_wp2_with fail
  go_ret
  exact ⟨rfl, rfl⟩
end Go.Proofs.YtfkemdapmoponaaGreatDoor

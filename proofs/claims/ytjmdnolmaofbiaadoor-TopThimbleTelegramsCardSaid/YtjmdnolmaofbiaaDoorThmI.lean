/- The package phasor: components of three numbers. -/
import Derived.Test.YtjmdnolmaofbiaaDoorThmH
namespace Go.Proofs.YtjmdnolmaofbiaaDoor
set_option linter.unusedSimpArgs false
set_option linter.unusedVariables false
open Go.RowKit

/-- the third roots of 1, as they are laid. -/
def Thirds (w : World) : Prop := (w.cell? ⟨0, 0, none⟩ = some (.int .i64 0) ∧ w.cell? ⟨0, 1, none⟩ = some (.int .i64 1)) ∧ w.cell? ⟨1, 0, none⟩ = some (.int .i64 (-1)) ∧ w.cell? ⟨1, 1, none⟩ = some (.int .i64 (-1))
theorem Thirds.carry {w w' : World} (h : Thirds w) (hb : Below w.heap.size w w') : Thirds w' := ⟨⟨cellb h.1.1 hb, cellb h.1.2 hb⟩, cellb h.2.1 hb, cellb h.2.2 hb⟩
/-- three numbers. -/
abbrev E3 := Int × Int × Int × Int × Int × Int
def e3L (x : E3) : List Int := [x.1, x.2.1, x.2.2.1, x.2.2.2.1, x.2.2.2.2.1, x.2.2.2.2.2]
def cmp (x : E3) : E3 := (x.1 + x.2.2.1 + x.2.2.2.2.1, x.2.1 + x.2.2.2.1 + x.2.2.2.2.2, x.1 + -x.2.2.2.1 + (x.2.2.2.2.2 - x.2.2.2.2.1), x.2.1 + (x.2.2.1 - x.2.2.2.1) + -x.2.2.2.2.1, x.1 + (x.2.2.2.1 - x.2.2.1) + -x.2.2.2.2.2, x.2.1 + -x.2.2.1 + (x.2.2.2.2.1 - x.2.2.2.2.2))
def SmlE (b : Int) (x : E3) : Prop := (-b ≤ x.1 ∧ x.1 ≤ b) ∧ (-b ≤ x.2.1 ∧ x.2.1 ≤ b) ∧ (-b ≤ x.2.2.1 ∧ x.2.2.1 ≤ b) ∧ (-b ≤ x.2.2.2.1 ∧ x.2.2.2.1 ≤ b) ∧ (-b ≤ x.2.2.2.2.1 ∧ x.2.2.2.2.1 ≤ b) ∧ (-b ≤ x.2.2.2.2.2 ∧ x.2.2.2.2.2 ≤ b)
theorem plusS {a b c d x y : Int} (w : World) (ha : -1000000 ≤ a ∧ a ≤ 1000000) (hb : -1000000 ≤ b ∧ b ≤ 1000000) (hc : -1000000 ≤ c ∧ c ≤ 1000000) (hd : -1000000 ≤ d ∧ d ≤ 1000000) (hx : a + c = x) (hy : b + d = y) :
    Calls Tryd.prog 37 #[.agg #[.int .i64 a, .int .i64 b], .agg #[.int .i64 c, .int .i64 d]] w fun e w' => e = .returned (.agg #[.int .i64 x, .int .i64 y]) ∧ Below w.heap.size w w' := by
  have h := plusP_any a b c d w
  have e1 : wrap64 (a + c) = x := by rw [← hx]; unfold wrap64; omega
  have e2 : wrap64 (b + d) = y := by rw [← hy]; unfold wrap64; omega
  rw [e1, e2] at h; exact h
theorem timesV1E {c d x y : Int} (w : World) (hc : -1000000 ≤ c ∧ c ≤ 1000000) (hd : -1000000 ≤ d ∧ d ≤ 1000000) (hx : -d = x) (hy : c - d = y) :
    Calls Tryd.prog 38 #[.agg #[.int .i64 0, .int .i64 1], .agg #[.int .i64 c, .int .i64 d]] w fun e w' => e = .returned (.agg #[.int .i64 x, .int .i64 y]) ∧ Below w.heap.size w w' := by
  have h := timesP_any 0 1 c d w
  rw [timP_w c d hc hd] at h
  rw [← hx, ← hy]; exact h
theorem timesV2E {c d x y : Int} (w : World) (hc : -1000000 ≤ c ∧ c ≤ 1000000) (hd : -1000000 ≤ d ∧ d ≤ 1000000) (hx : d - c = x) (hy : -c = y) :
    Calls Tryd.prog 38 #[.agg #[.int .i64 (-1), .int .i64 (-1)], .agg #[.int .i64 c, .int .i64 d]] w fun e w' => e = .returned (.agg #[.int .i64 x, .int .i64 y]) ∧ Below w.heap.size w w' := by
  have h := timesP_any (-1) (-1) c d w
  rw [timP_w2 c d hc hd] at h
  rw [← hx, ← hy]; exact h
theorem Tryd.sizeEis : (Tryd.prog.info? 88).map (fun x => x.size) = some 2 := by kernel_rfl
theorem Tryd.sizeE3 : (Tryd.prog.info? 36).map (fun x => x.size) = some 6 := by kernel_rfl

set_option maxRecDepth 100000 in
set_option maxHeartbeats 4000000 in
theorem components_any (x : E3) (w : World) (hT : Thirds w) (hs : SmlE 10000 x) :
    Calls Tryd.prog 28 #[.agg (ia (e3L x))] w fun e w' => e = .returned (.agg (ia (e3L (cmp x)))) ∧ Below w.heap.size w w' := by
  obtain ⟨a0, a1, b0, b1, c0, c1⟩ := x
  obtain ⟨z0, hz0⟩ : ∃ v, v = a0 + b0 + c0 := ⟨_, rfl⟩
  obtain ⟨z1, hz1⟩ : ∃ v, v = a1 + b1 + c1 := ⟨_, rfl⟩
  obtain ⟨p0, hp0⟩ : ∃ v, v = a0 + -b1 + (c1 - c0) := ⟨_, rfl⟩
  obtain ⟨p1, hp1⟩ : ∃ v, v = a1 + (b0 - b1) + -c0 := ⟨_, rfl⟩
  obtain ⟨n0, hn0⟩ : ∃ v, v = a0 + (b1 - b0) + -c1 := ⟨_, rfl⟩
  obtain ⟨n1, hn1⟩ : ∃ v, v = a1 + -b0 + (c0 - c1) := ⟨_, rfl⟩
  have hcmp : e3L (cmp (a0, a1, b0, b1, c0, c1)) = [z0, z1, p0, p1, n0, n1] := by rw [hz0, hz1, hp0, hp1, hn0, hn1]; rfl
  rw [hcmp]
  obtain ⟨s0, hs0⟩ : ∃ v, v = a0 + b0 := ⟨_, rfl⟩
  obtain ⟨s1, hs1⟩ : ∃ v, v = a1 + b1 := ⟨_, rfl⟩
  obtain ⟨u0, hu0⟩ : ∃ v, v = -b1 := ⟨_, rfl⟩
  obtain ⟨u1, hu1⟩ : ∃ v, v = b0 - b1 := ⟨_, rfl⟩
  obtain ⟨v0, hv0⟩ : ∃ v, v = a0 + u0 := ⟨_, rfl⟩
  obtain ⟨v1, hv1⟩ : ∃ v, v = a1 + u1 := ⟨_, rfl⟩
  obtain ⟨x0, hx0⟩ : ∃ v, v = c1 - c0 := ⟨_, rfl⟩
  obtain ⟨x1, hx1⟩ : ∃ v, v = -c0 := ⟨_, rfl⟩
  obtain ⟨y0, hy0⟩ : ∃ v, v = b1 - b0 := ⟨_, rfl⟩
  obtain ⟨y1, hy1⟩ : ∃ v, v = -b0 := ⟨_, rfl⟩
  obtain ⟨q0, hq0⟩ : ∃ v, v = a0 + y0 := ⟨_, rfl⟩
  obtain ⟨q1, hq1⟩ : ∃ v, v = a1 + y1 := ⟨_, rfl⟩
  obtain ⟨r0, hr0⟩ : ∃ v, v = -c1 := ⟨_, rfl⟩
  obtain ⟨r1, hr1⟩ : ∃ v, v = c0 - c1 := ⟨_, rfl⟩
  simp only [SmlE] at hs
  obtain ⟨ga0, ga1, gb0, gb1, gc0, gc1⟩ := hs
  have K2 := Lib.hid (fun W => plusS (a := a0) (b := a1) (c := b0) (d := b1) (x := s0) (y := s1) W (by omega) (by omega) (by omega) (by omega) (by omega) (by omega))
  have K4 := Lib.hid (fun W => plusS (a := s0) (b := s1) (c := c0) (d := c1) (x := z0) (y := z1) W (by omega) (by omega) (by omega) (by omega) (by omega) (by omega))
  have K8 := Lib.hid (fun W => timesV1E (c := b0) (d := b1) (x := u0) (y := u1) W (by omega) (by omega) (by omega) (by omega))
  have K9 := Lib.hid (fun W => plusS (a := a0) (b := a1) (c := u0) (d := u1) (x := v0) (y := v1) W (by omega) (by omega) (by omega) (by omega) (by omega) (by omega))
  have K12 := Lib.hid (fun W => timesV2E (c := c0) (d := c1) (x := x0) (y := x1) W (by omega) (by omega) (by omega) (by omega))
  have K13 := Lib.hid (fun W => plusS (a := v0) (b := v1) (c := x0) (d := x1) (x := p0) (y := p1) W (by omega) (by omega) (by omega) (by omega) (by omega) (by omega))
  have K17 := Lib.hid (fun W => timesV2E (c := b0) (d := b1) (x := y0) (y := y1) W (by omega) (by omega) (by omega) (by omega))
  have K18 := Lib.hid (fun W => plusS (a := a0) (b := a1) (c := y0) (d := y1) (x := q0) (y := q1) W (by omega) (by omega) (by omega) (by omega) (by omega) (by omega))
  have K21 := Lib.hid (fun W => timesV1E (c := c0) (d := c1) (x := r0) (y := r1) W (by omega) (by omega) (by omega) (by omega))
  have K22 := Lib.hid (fun W => plusS (a := q0) (b := q1) (c := r0) (d := r1) (x := n0) (y := n1) W (by omega) (by omega) (by omega) (by omega) (by omega) (by omega))
  clear hcmp hz0 hz1 hp0 hp1 hn0 hn1 hs0 hs1 hu0 hu1 hv0 hv1 hx0 hx1 hy0 hy1 hq0 hq1 hr0 hr1 ga0 ga1 gb0 gb1 gc0 gc1
  show Calls _ _ #[.agg #[.int .i64 a0, .int .i64 a1, .int .i64 b0, .int .i64 b1, .int .i64 c0, .int .i64 c1]] _ _
  go_enter Tryd.func28, Tryd.ntmps28
  go_upto_region 1 with fail
  obtain ⟨W1, hW1⟩ : ∃ v, v = World.alloc w (Obj.cells #[.int .i64 a0, .int .i64 a1, .int .i64 b0, .int .i64 b1, .int .i64 c0, .int .i64 c1] 36) := ⟨_, rfl⟩
  have kW1 : Below w.heap.size w W1 := by rw [hW1]; exact below_new _ _
  have iW1 : Blk W1 (w.heap.size) 36 [.int .i64 a0, .int .i64 a1, .int .i64 b0, .int .i64 b1, .int .i64 c0, .int .i64 c1] := by rw [hW1]; exact Blk.new _ _ _
  have sW1 : W1.heap.size = w.heap.size + 1 := by rw [hW1]; simp
  rw [← hW1]
  clear hW1
  obtain ⟨W2, hW2⟩ : ∃ v, v = World.alloc W1 (Obj.cells #[.int .i64 0, .int .i64 0, .int .i64 0, .int .i64 0, .int .i64 0, .int .i64 0] 36) := ⟨_, rfl⟩
  have kW2 : Below W1.heap.size W1 W2 := by rw [hW2]; exact below_new _ _
  have iW2 : Blk W2 (w.heap.size + 1) 36 [.int .i64 0, .int .i64 0, .int .i64 0, .int .i64 0, .int .i64 0, .int .i64 0] := by rw [hW2, ← sW1]; exact Blk.new _ _ _
  have sW2 : W2.heap.size = w.heap.size + 1 + 1 := by rw [hW2]; simp [sW1]
  rw [← hW2]
  clear hW2
  have i1 := iW1.carry kW2
  have i2 : BlkI W2 (w.heap.size + 1) 36 [0, 0, 0, 0, 0, 0] := iW2
  have hB : Below w.heap.size w W2 := bthen kW1 kW2
  have hT2 := hT.carry hB
  have hsz : W2.heap.size = w.heap.size + 2 := by rw [sW2]
  clear iW1 iW2 kW1 kW2 sW1 sW2 hT
  have d0 := i1.cell (j := 0) (v := .int .i64 a0) rfl
  have d1 := i1.cell (j := 1) (v := .int .i64 a1) rfl
  have d2 := i1.cell (j := 2) (v := .int .i64 b0) rfl
  have d3 := i1.cell (j := 3) (v := .int .i64 b1) rfl
  have d4 := i1.cell (j := 4) (v := .int .i64 c0) rfl
  have d5 := i1.cell (j := 5) (v := .int .i64 c1) rfl
  go_cut [3, 4, 5] from 6 to 12 (fun u3 u4 u5 wn => ∃ b3 b4 b5 : Nat, u3 = .pointer (some ⟨b3, 0, none⟩) ∧ u4 = .pointer (some ⟨b4, 0, none⟩) ∧ u5 = .pointer (some ⟨b5, 0, none⟩) ∧ BlkI wn b3 88 [a0, a1] ∧ BlkI wn b4 88 [b0, b1] ∧ BlkI wn b5 88 [c0, c1] ∧ Below W2.heap.size W2 wn)
  case first =>
    refine wp_region_held_drew (S := (fun W => W.cell? ⟨w.heap.size, 0, none⟩ = some (.int .i64 a0) ∧ W.cell? ⟨w.heap.size, 1, none⟩ = some (.int .i64 a1) ∧ W.cell? ⟨w.heap.size, 2, none⟩ = some (.int .i64 b0) ∧ W.cell? ⟨w.heap.size, 3, none⟩ = some (.int .i64 b1) ∧ W.cell? ⟨w.heap.size, 4, none⟩ = some (.int .i64 c0) ∧ W.cell? ⟨w.heap.size, 5, none⟩ = some (.int .i64 c1))) (by kernel_rfl) ⟨cellb d0 (Below.refl _ _).drew, cellb d1 (Below.refl _ _).drew, cellb d2 (Below.refl _ _).drew, cellb d3 (Below.refl _ _).drew, cellb d4 (Below.refl _ _).drew, cellb d5 (Below.refl _ _).drew⟩ (fun hHeld0 => ?_)
    obtain ⟨wzd, hwz⟩ : ∃ v, v = W2.drew := ⟨_, rfl⟩
    rw [← hwz] at hHeld0 ⊢
    have hbzd : Below W2.heap.size W2 wzd := by rw [hwz]; exact (Below.refl _ _).drew
    have hlzd : Below W2.heap.size W2 wzd := by rw [hwz]; exact (Below.refl _ _).drew
    clear hwz hlzd
    refine wpAnyH_take (i := 0) (oi := { dst := some 6, op := Op.indexAddr 36 (Operand.tmp 1) (Operand.const (Value.int IntKind.i64 0)), type := 0, pos := "phasor.go:206", after := #[], guard := none }) (v := ?_) rfl (by kernel_rfl) (by kernel_rfl) (by kernel_rfl) (fun _ _ _ h => h) (Or.inl ⟨by rfl, ?_⟩) (by assumption) ?_
    rotate_left
    · (intro w hSw; (try dsimp only at hSw); go_simp); (try with_reducible rfl)
    try simp only [Act.put, List.setIfInBounds_toArray, List.set_cons_zero, List.set_cons_succ]
    refine wpAnyH_take (i := 1) (oi := { dst := some 7, op := Op.load 33 (Operand.tmp 6), type := 33, pos := "phasor.go:206", after := #[{ on := 0, ground := Ground.data }], guard := none }) (v := ?_) rfl (by kernel_rfl) (by kernel_rfl) (by kernel_rfl) (fun _ _ _ h => h) (Or.inl ⟨by rfl, ?_⟩) (by assumption) ?_
    rotate_left
    · (intro w hSw; (try dsimp only at hSw); go_simp); (try with_reducible rfl)
    try simp only [Act.put, List.setIfInBounds_toArray, List.set_cons_zero, List.set_cons_succ]
    refine wpAnyH_take (i := 2) (oi := { dst := some 8, op := Op.indexAddr 36 (Operand.tmp 1) (Operand.const (Value.int IntKind.i64 1)), type := 0, pos := "phasor.go:206", after := #[{ on := 9, ground := Ground.gcOnly Departure.lateStores }], guard := none }) (v := ?_) rfl (by kernel_rfl) (by kernel_rfl) (by kernel_rfl) (fun _ _ _ h => h) (Or.inl ⟨by rfl, ?_⟩) (by assumption) ?_
    rotate_left
    · (intro w hSw; (try dsimp only at hSw); go_simp); (try with_reducible rfl)
    try simp only [Act.put, List.setIfInBounds_toArray, List.set_cons_zero, List.set_cons_succ]
    refine wpAnyH_take (i := 3) (oi := { dst := some 9, op := Op.load 33 (Operand.tmp 8), type := 33, pos := "phasor.go:206", after := #[{ on := 2, ground := Ground.data }, { on := 9, ground := Ground.gcOnly Departure.lateStores }], guard := none }) (v := ?_) rfl (by kernel_rfl) (by kernel_rfl) (by kernel_rfl) (fun _ _ _ h => h) (Or.inl ⟨by rfl, ?_⟩) (by assumption) ?_
    rotate_left
    · (intro w hSw; (try dsimp only at hSw); go_simp); (try with_reducible rfl)
    try simp only [Act.put, List.setIfInBounds_toArray, List.set_cons_zero, List.set_cons_succ]
    refine wpAnyH_take (i := 4) (oi := { dst := some 10, op := Op.indexAddr 36 (Operand.tmp 1) (Operand.const (Value.int IntKind.i64 2)), type := 0, pos := "phasor.go:206", after := #[{ on := 10, ground := Ground.gcOnly Departure.lateStores }], guard := none }) (v := ?_) rfl (by kernel_rfl) (by kernel_rfl) (by kernel_rfl) (fun _ _ _ h => h) (Or.inl ⟨by rfl, ?_⟩) (by assumption) ?_
    rotate_left
    · (intro w hSw; (try dsimp only at hSw); go_simp); (try with_reducible rfl)
    try simp only [Act.put, List.setIfInBounds_toArray, List.set_cons_zero, List.set_cons_succ]
    refine wpAnyH_take (i := 5) (oi := { dst := some 11, op := Op.load 33 (Operand.tmp 10), type := 33, pos := "phasor.go:206", after := #[{ on := 4, ground := Ground.data }, { on := 10, ground := Ground.gcOnly Departure.lateStores }], guard := none }) (v := ?_) rfl (by kernel_rfl) (by kernel_rfl) (by kernel_rfl) (fun _ _ _ h => h) (Or.inl ⟨by rfl, ?_⟩) (by assumption) ?_
    rotate_left
    · (intro w hSw; (try dsimp only at hSw); go_simp); (try with_reducible rfl)
    try simp only [Act.put, List.setIfInBounds_toArray, List.set_cons_zero, List.set_cons_succ]
    refine wpAnyH_ready (rs := [6, 7, 8]) (by kernel_rfl) (by simp) ?_
    refine (AllReadyH.cons (o := { dst := some 3, op := Op.alloc 88, type := 0, pos := "phasor.go:206", after := #[], guard := none }) rfl (fun K hK => ?_) (AllReadyH.cons (o := { dst := some 4, op := Op.alloc 88, type := 0, pos := "phasor.go:206", after := #[], guard := none }) rfl (fun K hK => ?_) (AllReadyH.cons (o := { dst := some 5, op := Op.alloc 88, type := 0, pos := "phasor.go:206", after := #[], guard := none }) rfl (fun K hK => ?_) AllReadyH.nil)))
    · go_simp
      obtain ⟨wz6, hwz⟩ : ∃ v, v = wzd.alloc (Obj.cells #[.int .i64 0, .int .i64 0] 88) := ⟨_, rfl⟩
      rw [← hwz]
      have hl : Below wzd.heap.size wzd wz6 := by rw [hwz]; exact below_new _ _
      have hbz6 := bthen hbzd hl
      obtain ⟨G6, hG⟩ : ∃ G, G = wzd.heap.size := ⟨_, rfl⟩
      have i6_ : BlkI wz6 G6 88 [0, 0] := by rw [hwz, hG]; exact Blk.new _ _ _
      have g6 : W2.heap.size ≤ G6 := by rw [hG]; exact (hbzd).size
      try (have q76 : G7 < G6 := by rw [hG]; exact Blk.lt i7_)
      try (have q86 : G8 < G6 := by rw [hG]; exact Blk.lt i8_)
      rw [← hG]
      clear hG
      clear hwz
      clear hl
      refine hK.out _ _ ⟨cellb d0 hbz6, cellb d1 hbz6, cellb d2 hbz6, cellb d3 hbz6, cellb d4 hbz6, cellb d5 hbz6⟩ (fun hHeld1 => ?_)
      clear hK K hHeld0
      try simp only [Act.put, List.setIfInBounds_toArray, List.set_cons_zero, List.set_cons_succ]
      refine wpAnyH_ready (rs := [7, 8]) (by kernel_rfl) (by simp) ?_
      refine (AllReadyH.cons (o := { dst := some 4, op := Op.alloc 88, type := 0, pos := "phasor.go:206", after := #[], guard := none }) rfl (fun K hK => ?_) (AllReadyH.cons (o := { dst := some 5, op := Op.alloc 88, type := 0, pos := "phasor.go:206", after := #[], guard := none }) rfl (fun K hK => ?_) AllReadyH.nil))
      · go_simp
        obtain ⟨wz7, hwz⟩ : ∃ v, v = wz6.alloc (Obj.cells #[.int .i64 0, .int .i64 0] 88) := ⟨_, rfl⟩
        rw [← hwz]
        have hl : Below wz6.heap.size wz6 wz7 := by rw [hwz]; exact below_new _ _
        have hbz7 := bthen hbz6 hl
        obtain ⟨G7, hG⟩ : ∃ G, G = wz6.heap.size := ⟨_, rfl⟩
        have i7_ : BlkI wz7 G7 88 [0, 0] := by rw [hwz, hG]; exact Blk.new _ _ _
        have g7 : W2.heap.size ≤ G7 := by rw [hG]; exact (hbz6).size
        try (have q67 : G6 < G7 := by rw [hG]; exact Blk.lt i6_)
        try (have q87 : G8 < G7 := by rw [hG]; exact Blk.lt i8_)
        rw [← hG]
        clear hG
        clear hwz
        have i6_ := i6_.carry hl
        clear hl
        refine hK.out _ _ ⟨cellb d0 hbz7, cellb d1 hbz7, cellb d2 hbz7, cellb d3 hbz7, cellb d4 hbz7, cellb d5 hbz7⟩ (fun hHeld2 => ?_)
        clear hK K hHeld1
        try simp only [Act.put, List.setIfInBounds_toArray, List.set_cons_zero, List.set_cons_succ]
        refine wpAnyH_ready (rs := [8]) (by kernel_rfl) (by simp) ?_
        refine (AllReadyH.cons (o := { dst := some 5, op := Op.alloc 88, type := 0, pos := "phasor.go:206", after := #[], guard := none }) rfl (fun K hK => ?_) AllReadyH.nil)
        go_simp
        obtain ⟨wz8, hwz⟩ : ∃ v, v = wz7.alloc (Obj.cells #[.int .i64 0, .int .i64 0] 88) := ⟨_, rfl⟩
        rw [← hwz]
        have hl : Below wz7.heap.size wz7 wz8 := by rw [hwz]; exact below_new _ _
        have hbz8 := bthen hbz7 hl
        obtain ⟨G8, hG⟩ : ∃ G, G = wz7.heap.size := ⟨_, rfl⟩
        have i8_ : BlkI wz8 G8 88 [0, 0] := by rw [hwz, hG]; exact Blk.new _ _ _
        have g8 : W2.heap.size ≤ G8 := by rw [hG]; exact (hbz7).size
        try (have q68 : G6 < G8 := by rw [hG]; exact Blk.lt i6_)
        try (have q78 : G7 < G8 := by rw [hG]; exact Blk.lt i7_)
        rw [← hG]
        clear hG
        clear hwz
        have i6_ := i6_.carry hl
        have i7_ := i7_.carry hl
        clear hl
        refine hK.out _ _ ⟨cellb d0 hbz8, cellb d1 hbz8, cellb d2 hbz8, cellb d3 hbz8, cellb d4 hbz8, cellb d5 hbz8⟩ (fun hHeld3 => ?_)
        clear hK K hHeld2
        try simp only [Act.put, List.setIfInBounds_toArray, List.set_cons_zero, List.set_cons_succ]
        refine wpAnyH_ready (rs := [9]) (by kernel_rfl) (by simp) ?_
        refine (AllReadyH.cons (o := { dst := none, op := Op.store 88 (Operand.tmp 3) (Operand.tmp 7), type := 0, pos := "phasor.go:206", after := #[{ on := 6, ground := Ground.data }, { on := 1, ground := Ground.data }, { on := 0, ground := Ground.phase }, { on := 1, ground := Ground.phase }, { on := 2, ground := Ground.textOnly Departure.lateStores }, { on := 3, ground := Ground.textOnly Departure.lateStores }, { on := 4, ground := Ground.textOnly Departure.lateStores }, { on := 5, ground := Ground.textOnly Departure.lateStores }, { on := 6, ground := Ground.phase }, { on := 7, ground := Ground.phase }, { on := 8, ground := Ground.phase }], guard := none }) rfl (fun K hK => ?_) AllReadyH.nil)
        refine wp_storeA _ _ _ rfl G6 [a0, a1] [0, 0] rfl rfl i6_ rfl Tryd.sizeEis ?_
        obtain ⟨wz9, hwz⟩ : ∃ v, v = World.setRow wz8 G6 (ia [a0, a1]) := ⟨_, rfl⟩
        rw [← hwz]
        have hbz9 : Below W2.heap.size W2 wz9 := by rw [hwz]; exact below_rowA hbz8 g6 _
        replace i6_ := BlkI.setRowA i6_ [a0, a1]
        rw [← hwz] at i6_
        replace i7_ := BlkI.setRowO i7_ (B' := G6) (by omega) (ia [a0, a1])
        rw [← hwz] at i7_
        replace i8_ := BlkI.setRowO i8_ (B' := G6) (by omega) (ia [a0, a1])
        rw [← hwz] at i8_
        clear hwz
        refine hK.out _ _ ⟨cellb d0 hbz9, cellb d1 hbz9, cellb d2 hbz9, cellb d3 hbz9, cellb d4 hbz9, cellb d5 hbz9⟩ (fun hHeld4 => ?_)
        clear hK K hHeld3
        try simp only [Act.put, List.setIfInBounds_toArray, List.set_cons_zero, List.set_cons_succ]
        refine wpAnyH_ready (rs := [10]) (by kernel_rfl) (by simp) ?_
        refine (AllReadyH.cons (o := { dst := none, op := Op.store 88 (Operand.tmp 4) (Operand.tmp 9), type := 0, pos := "phasor.go:206", after := #[{ on := 7, ground := Ground.data }, { on := 3, ground := Ground.data }, { on := 9, ground := Ground.chain }, { on := 0, ground := Ground.phase }, { on := 1, ground := Ground.phase }, { on := 2, ground := Ground.phase }, { on := 3, ground := Ground.phase }, { on := 4, ground := Ground.textOnly Departure.lateStores }, { on := 5, ground := Ground.textOnly Departure.lateStores }, { on := 6, ground := Ground.phase }, { on := 7, ground := Ground.phase }, { on := 8, ground := Ground.phase }, { on := 9, ground := Ground.phase }], guard := none }) rfl (fun K hK => ?_) AllReadyH.nil)
        refine wp_storeA _ _ _ rfl G7 [b0, b1] [0, 0] rfl rfl i7_ rfl Tryd.sizeEis ?_
        obtain ⟨wz10, hwz⟩ : ∃ v, v = World.setRow wz9 G7 (ia [b0, b1]) := ⟨_, rfl⟩
        rw [← hwz]
        have hbz10 : Below W2.heap.size W2 wz10 := by rw [hwz]; exact below_rowA hbz9 g7 _
        replace i7_ := BlkI.setRowA i7_ [b0, b1]
        rw [← hwz] at i7_
        replace i6_ := BlkI.setRowO i6_ (B' := G7) (by omega) (ia [b0, b1])
        rw [← hwz] at i6_
        replace i8_ := BlkI.setRowO i8_ (B' := G7) (by omega) (ia [b0, b1])
        rw [← hwz] at i8_
        clear hwz
        refine hK.out _ _ ⟨cellb d0 hbz10, cellb d1 hbz10, cellb d2 hbz10, cellb d3 hbz10, cellb d4 hbz10, cellb d5 hbz10⟩ (fun hHeld5 => ?_)
        clear hK K hHeld4
        try simp only [Act.put, List.setIfInBounds_toArray, List.set_cons_zero, List.set_cons_succ]
        refine wpAnyH_ready (rs := [11]) (by kernel_rfl) (by simp) ?_
        refine (AllReadyH.cons (o := { dst := none, op := Op.store 88 (Operand.tmp 5) (Operand.tmp 11), type := 0, pos := "phasor.go:206", after := #[{ on := 8, ground := Ground.data }, { on := 5, ground := Ground.data }, { on := 10, ground := Ground.chain }, { on := 0, ground := Ground.phase }, { on := 1, ground := Ground.phase }, { on := 2, ground := Ground.phase }, { on := 3, ground := Ground.phase }, { on := 4, ground := Ground.phase }, { on := 5, ground := Ground.phase }, { on := 6, ground := Ground.phase }, { on := 7, ground := Ground.phase }, { on := 8, ground := Ground.phase }, { on := 9, ground := Ground.phase }, { on := 10, ground := Ground.phase }], guard := none }) rfl (fun K hK => ?_) AllReadyH.nil)
        refine wp_storeA _ _ _ rfl G8 [c0, c1] [0, 0] rfl rfl i8_ rfl Tryd.sizeEis ?_
        obtain ⟨wz11, hwz⟩ : ∃ v, v = World.setRow wz10 G8 (ia [c0, c1]) := ⟨_, rfl⟩
        rw [← hwz]
        have hbz11 : Below W2.heap.size W2 wz11 := by rw [hwz]; exact below_rowA hbz10 g8 _
        replace i8_ := BlkI.setRowA i8_ [c0, c1]
        rw [← hwz] at i8_
        replace i6_ := BlkI.setRowO i6_ (B' := G8) (by omega) (ia [c0, c1])
        rw [← hwz] at i6_
        replace i7_ := BlkI.setRowO i7_ (B' := G8) (by omega) (ia [c0, c1])
        rw [← hwz] at i7_
        clear hwz
        refine hK.out _ _ ⟨cellb d0 hbz11, cellb d1 hbz11, cellb d2 hbz11, cellb d3 hbz11, cellb d4 hbz11, cellb d5 hbz11⟩ (fun hHeld6 => ?_)
        clear hK K hHeld5
        try simp only [Act.put, List.setIfInBounds_toArray, List.set_cons_zero, List.set_cons_succ]
        refine wpAnyH_done (by kernel_rfl) ?_ _
        clear hHeld6
        go_wp2_with fail
        go_meet
        exact ⟨G6, G7, G8, rfl, rfl, rfl, i6_, i7_, i8_, hbz11⟩
      · go_simp
        obtain ⟨wz8, hwz⟩ : ∃ v, v = wz6.alloc (Obj.cells #[.int .i64 0, .int .i64 0] 88) := ⟨_, rfl⟩
        rw [← hwz]
        have hl : Below wz6.heap.size wz6 wz8 := by rw [hwz]; exact below_new _ _
        have hbz8 := bthen hbz6 hl
        obtain ⟨G8, hG⟩ : ∃ G, G = wz6.heap.size := ⟨_, rfl⟩
        have i8_ : BlkI wz8 G8 88 [0, 0] := by rw [hwz, hG]; exact Blk.new _ _ _
        have g8 : W2.heap.size ≤ G8 := by rw [hG]; exact (hbz6).size
        try (have q68 : G6 < G8 := by rw [hG]; exact Blk.lt i6_)
        try (have q78 : G7 < G8 := by rw [hG]; exact Blk.lt i7_)
        rw [← hG]
        clear hG
        clear hwz
        have i6_ := i6_.carry hl
        clear hl
        refine hK.out _ _ ⟨cellb d0 hbz8, cellb d1 hbz8, cellb d2 hbz8, cellb d3 hbz8, cellb d4 hbz8, cellb d5 hbz8⟩ (fun hHeld2 => ?_)
        clear hK K hHeld1
        try simp only [Act.put, List.setIfInBounds_toArray, List.set_cons_zero, List.set_cons_succ]
        refine wpAnyH_ready (rs := [7]) (by kernel_rfl) (by simp) ?_
        refine (AllReadyH.cons (o := { dst := some 4, op := Op.alloc 88, type := 0, pos := "phasor.go:206", after := #[], guard := none }) rfl (fun K hK => ?_) AllReadyH.nil)
        go_simp
        obtain ⟨wz7, hwz⟩ : ∃ v, v = wz8.alloc (Obj.cells #[.int .i64 0, .int .i64 0] 88) := ⟨_, rfl⟩
        rw [← hwz]
        have hl : Below wz8.heap.size wz8 wz7 := by rw [hwz]; exact below_new _ _
        have hbz7 := bthen hbz8 hl
        obtain ⟨G7, hG⟩ : ∃ G, G = wz8.heap.size := ⟨_, rfl⟩
        have i7_ : BlkI wz7 G7 88 [0, 0] := by rw [hwz, hG]; exact Blk.new _ _ _
        have g7 : W2.heap.size ≤ G7 := by rw [hG]; exact (hbz8).size
        try (have q67 : G6 < G7 := by rw [hG]; exact Blk.lt i6_)
        try (have q87 : G8 < G7 := by rw [hG]; exact Blk.lt i8_)
        rw [← hG]
        clear hG
        clear hwz
        have i6_ := i6_.carry hl
        have i8_ := i8_.carry hl
        clear hl
        refine hK.out _ _ ⟨cellb d0 hbz7, cellb d1 hbz7, cellb d2 hbz7, cellb d3 hbz7, cellb d4 hbz7, cellb d5 hbz7⟩ (fun hHeld3 => ?_)
        clear hK K hHeld2
        try simp only [Act.put, List.setIfInBounds_toArray, List.set_cons_zero, List.set_cons_succ]
        refine wpAnyH_ready (rs := [9]) (by kernel_rfl) (by simp) ?_
        refine (AllReadyH.cons (o := { dst := none, op := Op.store 88 (Operand.tmp 3) (Operand.tmp 7), type := 0, pos := "phasor.go:206", after := #[{ on := 6, ground := Ground.data }, { on := 1, ground := Ground.data }, { on := 0, ground := Ground.phase }, { on := 1, ground := Ground.phase }, { on := 2, ground := Ground.textOnly Departure.lateStores }, { on := 3, ground := Ground.textOnly Departure.lateStores }, { on := 4, ground := Ground.textOnly Departure.lateStores }, { on := 5, ground := Ground.textOnly Departure.lateStores }, { on := 6, ground := Ground.phase }, { on := 7, ground := Ground.phase }, { on := 8, ground := Ground.phase }], guard := none }) rfl (fun K hK => ?_) AllReadyH.nil)
        refine wp_storeA _ _ _ rfl G6 [a0, a1] [0, 0] rfl rfl i6_ rfl Tryd.sizeEis ?_
        obtain ⟨wz9, hwz⟩ : ∃ v, v = World.setRow wz7 G6 (ia [a0, a1]) := ⟨_, rfl⟩
        rw [← hwz]
        have hbz9 : Below W2.heap.size W2 wz9 := by rw [hwz]; exact below_rowA hbz7 g6 _
        replace i6_ := BlkI.setRowA i6_ [a0, a1]
        rw [← hwz] at i6_
        replace i7_ := BlkI.setRowO i7_ (B' := G6) (by omega) (ia [a0, a1])
        rw [← hwz] at i7_
        replace i8_ := BlkI.setRowO i8_ (B' := G6) (by omega) (ia [a0, a1])
        rw [← hwz] at i8_
        clear hwz
        refine hK.out _ _ ⟨cellb d0 hbz9, cellb d1 hbz9, cellb d2 hbz9, cellb d3 hbz9, cellb d4 hbz9, cellb d5 hbz9⟩ (fun hHeld4 => ?_)
        clear hK K hHeld3
        try simp only [Act.put, List.setIfInBounds_toArray, List.set_cons_zero, List.set_cons_succ]
        refine wpAnyH_ready (rs := [10]) (by kernel_rfl) (by simp) ?_
        refine (AllReadyH.cons (o := { dst := none, op := Op.store 88 (Operand.tmp 4) (Operand.tmp 9), type := 0, pos := "phasor.go:206", after := #[{ on := 7, ground := Ground.data }, { on := 3, ground := Ground.data }, { on := 9, ground := Ground.chain }, { on := 0, ground := Ground.phase }, { on := 1, ground := Ground.phase }, { on := 2, ground := Ground.phase }, { on := 3, ground := Ground.phase }, { on := 4, ground := Ground.textOnly Departure.lateStores }, { on := 5, ground := Ground.textOnly Departure.lateStores }, { on := 6, ground := Ground.phase }, { on := 7, ground := Ground.phase }, { on := 8, ground := Ground.phase }, { on := 9, ground := Ground.phase }], guard := none }) rfl (fun K hK => ?_) AllReadyH.nil)
        refine wp_storeA _ _ _ rfl G7 [b0, b1] [0, 0] rfl rfl i7_ rfl Tryd.sizeEis ?_
        obtain ⟨wz10, hwz⟩ : ∃ v, v = World.setRow wz9 G7 (ia [b0, b1]) := ⟨_, rfl⟩
        rw [← hwz]
        have hbz10 : Below W2.heap.size W2 wz10 := by rw [hwz]; exact below_rowA hbz9 g7 _
        replace i7_ := BlkI.setRowA i7_ [b0, b1]
        rw [← hwz] at i7_
        replace i6_ := BlkI.setRowO i6_ (B' := G7) (by omega) (ia [b0, b1])
        rw [← hwz] at i6_
        replace i8_ := BlkI.setRowO i8_ (B' := G7) (by omega) (ia [b0, b1])
        rw [← hwz] at i8_
        clear hwz
        refine hK.out _ _ ⟨cellb d0 hbz10, cellb d1 hbz10, cellb d2 hbz10, cellb d3 hbz10, cellb d4 hbz10, cellb d5 hbz10⟩ (fun hHeld5 => ?_)
        clear hK K hHeld4
        try simp only [Act.put, List.setIfInBounds_toArray, List.set_cons_zero, List.set_cons_succ]
        refine wpAnyH_ready (rs := [11]) (by kernel_rfl) (by simp) ?_
        refine (AllReadyH.cons (o := { dst := none, op := Op.store 88 (Operand.tmp 5) (Operand.tmp 11), type := 0, pos := "phasor.go:206", after := #[{ on := 8, ground := Ground.data }, { on := 5, ground := Ground.data }, { on := 10, ground := Ground.chain }, { on := 0, ground := Ground.phase }, { on := 1, ground := Ground.phase }, { on := 2, ground := Ground.phase }, { on := 3, ground := Ground.phase }, { on := 4, ground := Ground.phase }, { on := 5, ground := Ground.phase }, { on := 6, ground := Ground.phase }, { on := 7, ground := Ground.phase }, { on := 8, ground := Ground.phase }, { on := 9, ground := Ground.phase }, { on := 10, ground := Ground.phase }], guard := none }) rfl (fun K hK => ?_) AllReadyH.nil)
        refine wp_storeA _ _ _ rfl G8 [c0, c1] [0, 0] rfl rfl i8_ rfl Tryd.sizeEis ?_
        obtain ⟨wz11, hwz⟩ : ∃ v, v = World.setRow wz10 G8 (ia [c0, c1]) := ⟨_, rfl⟩
        rw [← hwz]
        have hbz11 : Below W2.heap.size W2 wz11 := by rw [hwz]; exact below_rowA hbz10 g8 _
        replace i8_ := BlkI.setRowA i8_ [c0, c1]
        rw [← hwz] at i8_
        replace i6_ := BlkI.setRowO i6_ (B' := G8) (by omega) (ia [c0, c1])
        rw [← hwz] at i6_
        replace i7_ := BlkI.setRowO i7_ (B' := G8) (by omega) (ia [c0, c1])
        rw [← hwz] at i7_
        clear hwz
        refine hK.out _ _ ⟨cellb d0 hbz11, cellb d1 hbz11, cellb d2 hbz11, cellb d3 hbz11, cellb d4 hbz11, cellb d5 hbz11⟩ (fun hHeld6 => ?_)
        clear hK K hHeld5
        try simp only [Act.put, List.setIfInBounds_toArray, List.set_cons_zero, List.set_cons_succ]
        refine wpAnyH_done (by kernel_rfl) ?_ _
        clear hHeld6
        go_wp2_with fail
        go_meet
        exact ⟨G6, G7, G8, rfl, rfl, rfl, i6_, i7_, i8_, hbz11⟩
    · go_simp
      obtain ⟨wz7, hwz⟩ : ∃ v, v = wzd.alloc (Obj.cells #[.int .i64 0, .int .i64 0] 88) := ⟨_, rfl⟩
      rw [← hwz]
      have hl : Below wzd.heap.size wzd wz7 := by rw [hwz]; exact below_new _ _
      have hbz7 := bthen hbzd hl
      obtain ⟨G7, hG⟩ : ∃ G, G = wzd.heap.size := ⟨_, rfl⟩
      have i7_ : BlkI wz7 G7 88 [0, 0] := by rw [hwz, hG]; exact Blk.new _ _ _
      have g7 : W2.heap.size ≤ G7 := by rw [hG]; exact (hbzd).size
      try (have q67 : G6 < G7 := by rw [hG]; exact Blk.lt i6_)
      try (have q87 : G8 < G7 := by rw [hG]; exact Blk.lt i8_)
      rw [← hG]
      clear hG
      clear hwz
      clear hl
      refine hK.out _ _ ⟨cellb d0 hbz7, cellb d1 hbz7, cellb d2 hbz7, cellb d3 hbz7, cellb d4 hbz7, cellb d5 hbz7⟩ (fun hHeld1 => ?_)
      clear hK K hHeld0
      try simp only [Act.put, List.setIfInBounds_toArray, List.set_cons_zero, List.set_cons_succ]
      refine wpAnyH_ready (rs := [6, 8]) (by kernel_rfl) (by simp) ?_
      refine (AllReadyH.cons (o := { dst := some 3, op := Op.alloc 88, type := 0, pos := "phasor.go:206", after := #[], guard := none }) rfl (fun K hK => ?_) (AllReadyH.cons (o := { dst := some 5, op := Op.alloc 88, type := 0, pos := "phasor.go:206", after := #[], guard := none }) rfl (fun K hK => ?_) AllReadyH.nil))
      · go_simp
        obtain ⟨wz6, hwz⟩ : ∃ v, v = wz7.alloc (Obj.cells #[.int .i64 0, .int .i64 0] 88) := ⟨_, rfl⟩
        rw [← hwz]
        have hl : Below wz7.heap.size wz7 wz6 := by rw [hwz]; exact below_new _ _
        have hbz6 := bthen hbz7 hl
        obtain ⟨G6, hG⟩ : ∃ G, G = wz7.heap.size := ⟨_, rfl⟩
        have i6_ : BlkI wz6 G6 88 [0, 0] := by rw [hwz, hG]; exact Blk.new _ _ _
        have g6 : W2.heap.size ≤ G6 := by rw [hG]; exact (hbz7).size
        try (have q76 : G7 < G6 := by rw [hG]; exact Blk.lt i7_)
        try (have q86 : G8 < G6 := by rw [hG]; exact Blk.lt i8_)
        rw [← hG]
        clear hG
        clear hwz
        have i7_ := i7_.carry hl
        clear hl
        refine hK.out _ _ ⟨cellb d0 hbz6, cellb d1 hbz6, cellb d2 hbz6, cellb d3 hbz6, cellb d4 hbz6, cellb d5 hbz6⟩ (fun hHeld2 => ?_)
        clear hK K hHeld1
        try simp only [Act.put, List.setIfInBounds_toArray, List.set_cons_zero, List.set_cons_succ]
        refine wpAnyH_ready (rs := [8]) (by kernel_rfl) (by simp) ?_
        refine (AllReadyH.cons (o := { dst := some 5, op := Op.alloc 88, type := 0, pos := "phasor.go:206", after := #[], guard := none }) rfl (fun K hK => ?_) AllReadyH.nil)
        go_simp
        obtain ⟨wz8, hwz⟩ : ∃ v, v = wz6.alloc (Obj.cells #[.int .i64 0, .int .i64 0] 88) := ⟨_, rfl⟩
        rw [← hwz]
        have hl : Below wz6.heap.size wz6 wz8 := by rw [hwz]; exact below_new _ _
        have hbz8 := bthen hbz6 hl
        obtain ⟨G8, hG⟩ : ∃ G, G = wz6.heap.size := ⟨_, rfl⟩
        have i8_ : BlkI wz8 G8 88 [0, 0] := by rw [hwz, hG]; exact Blk.new _ _ _
        have g8 : W2.heap.size ≤ G8 := by rw [hG]; exact (hbz6).size
        try (have q68 : G6 < G8 := by rw [hG]; exact Blk.lt i6_)
        try (have q78 : G7 < G8 := by rw [hG]; exact Blk.lt i7_)
        rw [← hG]
        clear hG
        clear hwz
        have i7_ := i7_.carry hl
        have i6_ := i6_.carry hl
        clear hl
        refine hK.out _ _ ⟨cellb d0 hbz8, cellb d1 hbz8, cellb d2 hbz8, cellb d3 hbz8, cellb d4 hbz8, cellb d5 hbz8⟩ (fun hHeld3 => ?_)
        clear hK K hHeld2
        try simp only [Act.put, List.setIfInBounds_toArray, List.set_cons_zero, List.set_cons_succ]
        refine wpAnyH_ready (rs := [9]) (by kernel_rfl) (by simp) ?_
        refine (AllReadyH.cons (o := { dst := none, op := Op.store 88 (Operand.tmp 3) (Operand.tmp 7), type := 0, pos := "phasor.go:206", after := #[{ on := 6, ground := Ground.data }, { on := 1, ground := Ground.data }, { on := 0, ground := Ground.phase }, { on := 1, ground := Ground.phase }, { on := 2, ground := Ground.textOnly Departure.lateStores }, { on := 3, ground := Ground.textOnly Departure.lateStores }, { on := 4, ground := Ground.textOnly Departure.lateStores }, { on := 5, ground := Ground.textOnly Departure.lateStores }, { on := 6, ground := Ground.phase }, { on := 7, ground := Ground.phase }, { on := 8, ground := Ground.phase }], guard := none }) rfl (fun K hK => ?_) AllReadyH.nil)
        refine wp_storeA _ _ _ rfl G6 [a0, a1] [0, 0] rfl rfl i6_ rfl Tryd.sizeEis ?_
        obtain ⟨wz9, hwz⟩ : ∃ v, v = World.setRow wz8 G6 (ia [a0, a1]) := ⟨_, rfl⟩
        rw [← hwz]
        have hbz9 : Below W2.heap.size W2 wz9 := by rw [hwz]; exact below_rowA hbz8 g6 _
        replace i6_ := BlkI.setRowA i6_ [a0, a1]
        rw [← hwz] at i6_
        replace i7_ := BlkI.setRowO i7_ (B' := G6) (by omega) (ia [a0, a1])
        rw [← hwz] at i7_
        replace i8_ := BlkI.setRowO i8_ (B' := G6) (by omega) (ia [a0, a1])
        rw [← hwz] at i8_
        clear hwz
        refine hK.out _ _ ⟨cellb d0 hbz9, cellb d1 hbz9, cellb d2 hbz9, cellb d3 hbz9, cellb d4 hbz9, cellb d5 hbz9⟩ (fun hHeld4 => ?_)
        clear hK K hHeld3
        try simp only [Act.put, List.setIfInBounds_toArray, List.set_cons_zero, List.set_cons_succ]
        refine wpAnyH_ready (rs := [10]) (by kernel_rfl) (by simp) ?_
        refine (AllReadyH.cons (o := { dst := none, op := Op.store 88 (Operand.tmp 4) (Operand.tmp 9), type := 0, pos := "phasor.go:206", after := #[{ on := 7, ground := Ground.data }, { on := 3, ground := Ground.data }, { on := 9, ground := Ground.chain }, { on := 0, ground := Ground.phase }, { on := 1, ground := Ground.phase }, { on := 2, ground := Ground.phase }, { on := 3, ground := Ground.phase }, { on := 4, ground := Ground.textOnly Departure.lateStores }, { on := 5, ground := Ground.textOnly Departure.lateStores }, { on := 6, ground := Ground.phase }, { on := 7, ground := Ground.phase }, { on := 8, ground := Ground.phase }, { on := 9, ground := Ground.phase }], guard := none }) rfl (fun K hK => ?_) AllReadyH.nil)
        refine wp_storeA _ _ _ rfl G7 [b0, b1] [0, 0] rfl rfl i7_ rfl Tryd.sizeEis ?_
        obtain ⟨wz10, hwz⟩ : ∃ v, v = World.setRow wz9 G7 (ia [b0, b1]) := ⟨_, rfl⟩
        rw [← hwz]
        have hbz10 : Below W2.heap.size W2 wz10 := by rw [hwz]; exact below_rowA hbz9 g7 _
        replace i7_ := BlkI.setRowA i7_ [b0, b1]
        rw [← hwz] at i7_
        replace i6_ := BlkI.setRowO i6_ (B' := G7) (by omega) (ia [b0, b1])
        rw [← hwz] at i6_
        replace i8_ := BlkI.setRowO i8_ (B' := G7) (by omega) (ia [b0, b1])
        rw [← hwz] at i8_
        clear hwz
        refine hK.out _ _ ⟨cellb d0 hbz10, cellb d1 hbz10, cellb d2 hbz10, cellb d3 hbz10, cellb d4 hbz10, cellb d5 hbz10⟩ (fun hHeld5 => ?_)
        clear hK K hHeld4
        try simp only [Act.put, List.setIfInBounds_toArray, List.set_cons_zero, List.set_cons_succ]
        refine wpAnyH_ready (rs := [11]) (by kernel_rfl) (by simp) ?_
        refine (AllReadyH.cons (o := { dst := none, op := Op.store 88 (Operand.tmp 5) (Operand.tmp 11), type := 0, pos := "phasor.go:206", after := #[{ on := 8, ground := Ground.data }, { on := 5, ground := Ground.data }, { on := 10, ground := Ground.chain }, { on := 0, ground := Ground.phase }, { on := 1, ground := Ground.phase }, { on := 2, ground := Ground.phase }, { on := 3, ground := Ground.phase }, { on := 4, ground := Ground.phase }, { on := 5, ground := Ground.phase }, { on := 6, ground := Ground.phase }, { on := 7, ground := Ground.phase }, { on := 8, ground := Ground.phase }, { on := 9, ground := Ground.phase }, { on := 10, ground := Ground.phase }], guard := none }) rfl (fun K hK => ?_) AllReadyH.nil)
        refine wp_storeA _ _ _ rfl G8 [c0, c1] [0, 0] rfl rfl i8_ rfl Tryd.sizeEis ?_
        obtain ⟨wz11, hwz⟩ : ∃ v, v = World.setRow wz10 G8 (ia [c0, c1]) := ⟨_, rfl⟩
        rw [← hwz]
        have hbz11 : Below W2.heap.size W2 wz11 := by rw [hwz]; exact below_rowA hbz10 g8 _
        replace i8_ := BlkI.setRowA i8_ [c0, c1]
        rw [← hwz] at i8_
        replace i6_ := BlkI.setRowO i6_ (B' := G8) (by omega) (ia [c0, c1])
        rw [← hwz] at i6_
        replace i7_ := BlkI.setRowO i7_ (B' := G8) (by omega) (ia [c0, c1])
        rw [← hwz] at i7_
        clear hwz
        refine hK.out _ _ ⟨cellb d0 hbz11, cellb d1 hbz11, cellb d2 hbz11, cellb d3 hbz11, cellb d4 hbz11, cellb d5 hbz11⟩ (fun hHeld6 => ?_)
        clear hK K hHeld5
        try simp only [Act.put, List.setIfInBounds_toArray, List.set_cons_zero, List.set_cons_succ]
        refine wpAnyH_done (by kernel_rfl) ?_ _
        clear hHeld6
        go_wp2_with fail
        go_meet
        exact ⟨G6, G7, G8, rfl, rfl, rfl, i6_, i7_, i8_, hbz11⟩
      · go_simp
        obtain ⟨wz8, hwz⟩ : ∃ v, v = wz7.alloc (Obj.cells #[.int .i64 0, .int .i64 0] 88) := ⟨_, rfl⟩
        rw [← hwz]
        have hl : Below wz7.heap.size wz7 wz8 := by rw [hwz]; exact below_new _ _
        have hbz8 := bthen hbz7 hl
        obtain ⟨G8, hG⟩ : ∃ G, G = wz7.heap.size := ⟨_, rfl⟩
        have i8_ : BlkI wz8 G8 88 [0, 0] := by rw [hwz, hG]; exact Blk.new _ _ _
        have g8 : W2.heap.size ≤ G8 := by rw [hG]; exact (hbz7).size
        try (have q68 : G6 < G8 := by rw [hG]; exact Blk.lt i6_)
        try (have q78 : G7 < G8 := by rw [hG]; exact Blk.lt i7_)
        rw [← hG]
        clear hG
        clear hwz
        have i7_ := i7_.carry hl
        clear hl
        refine hK.out _ _ ⟨cellb d0 hbz8, cellb d1 hbz8, cellb d2 hbz8, cellb d3 hbz8, cellb d4 hbz8, cellb d5 hbz8⟩ (fun hHeld2 => ?_)
        clear hK K hHeld1
        try simp only [Act.put, List.setIfInBounds_toArray, List.set_cons_zero, List.set_cons_succ]
        refine wpAnyH_ready (rs := [6]) (by kernel_rfl) (by simp) ?_
        refine (AllReadyH.cons (o := { dst := some 3, op := Op.alloc 88, type := 0, pos := "phasor.go:206", after := #[], guard := none }) rfl (fun K hK => ?_) AllReadyH.nil)
        go_simp
        obtain ⟨wz6, hwz⟩ : ∃ v, v = wz8.alloc (Obj.cells #[.int .i64 0, .int .i64 0] 88) := ⟨_, rfl⟩
        rw [← hwz]
        have hl : Below wz8.heap.size wz8 wz6 := by rw [hwz]; exact below_new _ _
        have hbz6 := bthen hbz8 hl
        obtain ⟨G6, hG⟩ : ∃ G, G = wz8.heap.size := ⟨_, rfl⟩
        have i6_ : BlkI wz6 G6 88 [0, 0] := by rw [hwz, hG]; exact Blk.new _ _ _
        have g6 : W2.heap.size ≤ G6 := by rw [hG]; exact (hbz8).size
        try (have q76 : G7 < G6 := by rw [hG]; exact Blk.lt i7_)
        try (have q86 : G8 < G6 := by rw [hG]; exact Blk.lt i8_)
        rw [← hG]
        clear hG
        clear hwz
        have i7_ := i7_.carry hl
        have i8_ := i8_.carry hl
        clear hl
        refine hK.out _ _ ⟨cellb d0 hbz6, cellb d1 hbz6, cellb d2 hbz6, cellb d3 hbz6, cellb d4 hbz6, cellb d5 hbz6⟩ (fun hHeld3 => ?_)
        clear hK K hHeld2
        try simp only [Act.put, List.setIfInBounds_toArray, List.set_cons_zero, List.set_cons_succ]
        refine wpAnyH_ready (rs := [9]) (by kernel_rfl) (by simp) ?_
        refine (AllReadyH.cons (o := { dst := none, op := Op.store 88 (Operand.tmp 3) (Operand.tmp 7), type := 0, pos := "phasor.go:206", after := #[{ on := 6, ground := Ground.data }, { on := 1, ground := Ground.data }, { on := 0, ground := Ground.phase }, { on := 1, ground := Ground.phase }, { on := 2, ground := Ground.textOnly Departure.lateStores }, { on := 3, ground := Ground.textOnly Departure.lateStores }, { on := 4, ground := Ground.textOnly Departure.lateStores }, { on := 5, ground := Ground.textOnly Departure.lateStores }, { on := 6, ground := Ground.phase }, { on := 7, ground := Ground.phase }, { on := 8, ground := Ground.phase }], guard := none }) rfl (fun K hK => ?_) AllReadyH.nil)
        refine wp_storeA _ _ _ rfl G6 [a0, a1] [0, 0] rfl rfl i6_ rfl Tryd.sizeEis ?_
        obtain ⟨wz9, hwz⟩ : ∃ v, v = World.setRow wz6 G6 (ia [a0, a1]) := ⟨_, rfl⟩
        rw [← hwz]
        have hbz9 : Below W2.heap.size W2 wz9 := by rw [hwz]; exact below_rowA hbz6 g6 _
        replace i6_ := BlkI.setRowA i6_ [a0, a1]
        rw [← hwz] at i6_
        replace i7_ := BlkI.setRowO i7_ (B' := G6) (by omega) (ia [a0, a1])
        rw [← hwz] at i7_
        replace i8_ := BlkI.setRowO i8_ (B' := G6) (by omega) (ia [a0, a1])
        rw [← hwz] at i8_
        clear hwz
        refine hK.out _ _ ⟨cellb d0 hbz9, cellb d1 hbz9, cellb d2 hbz9, cellb d3 hbz9, cellb d4 hbz9, cellb d5 hbz9⟩ (fun hHeld4 => ?_)
        clear hK K hHeld3
        try simp only [Act.put, List.setIfInBounds_toArray, List.set_cons_zero, List.set_cons_succ]
        refine wpAnyH_ready (rs := [10]) (by kernel_rfl) (by simp) ?_
        refine (AllReadyH.cons (o := { dst := none, op := Op.store 88 (Operand.tmp 4) (Operand.tmp 9), type := 0, pos := "phasor.go:206", after := #[{ on := 7, ground := Ground.data }, { on := 3, ground := Ground.data }, { on := 9, ground := Ground.chain }, { on := 0, ground := Ground.phase }, { on := 1, ground := Ground.phase }, { on := 2, ground := Ground.phase }, { on := 3, ground := Ground.phase }, { on := 4, ground := Ground.textOnly Departure.lateStores }, { on := 5, ground := Ground.textOnly Departure.lateStores }, { on := 6, ground := Ground.phase }, { on := 7, ground := Ground.phase }, { on := 8, ground := Ground.phase }, { on := 9, ground := Ground.phase }], guard := none }) rfl (fun K hK => ?_) AllReadyH.nil)
        refine wp_storeA _ _ _ rfl G7 [b0, b1] [0, 0] rfl rfl i7_ rfl Tryd.sizeEis ?_
        obtain ⟨wz10, hwz⟩ : ∃ v, v = World.setRow wz9 G7 (ia [b0, b1]) := ⟨_, rfl⟩
        rw [← hwz]
        have hbz10 : Below W2.heap.size W2 wz10 := by rw [hwz]; exact below_rowA hbz9 g7 _
        replace i7_ := BlkI.setRowA i7_ [b0, b1]
        rw [← hwz] at i7_
        replace i6_ := BlkI.setRowO i6_ (B' := G7) (by omega) (ia [b0, b1])
        rw [← hwz] at i6_
        replace i8_ := BlkI.setRowO i8_ (B' := G7) (by omega) (ia [b0, b1])
        rw [← hwz] at i8_
        clear hwz
        refine hK.out _ _ ⟨cellb d0 hbz10, cellb d1 hbz10, cellb d2 hbz10, cellb d3 hbz10, cellb d4 hbz10, cellb d5 hbz10⟩ (fun hHeld5 => ?_)
        clear hK K hHeld4
        try simp only [Act.put, List.setIfInBounds_toArray, List.set_cons_zero, List.set_cons_succ]
        refine wpAnyH_ready (rs := [11]) (by kernel_rfl) (by simp) ?_
        refine (AllReadyH.cons (o := { dst := none, op := Op.store 88 (Operand.tmp 5) (Operand.tmp 11), type := 0, pos := "phasor.go:206", after := #[{ on := 8, ground := Ground.data }, { on := 5, ground := Ground.data }, { on := 10, ground := Ground.chain }, { on := 0, ground := Ground.phase }, { on := 1, ground := Ground.phase }, { on := 2, ground := Ground.phase }, { on := 3, ground := Ground.phase }, { on := 4, ground := Ground.phase }, { on := 5, ground := Ground.phase }, { on := 6, ground := Ground.phase }, { on := 7, ground := Ground.phase }, { on := 8, ground := Ground.phase }, { on := 9, ground := Ground.phase }, { on := 10, ground := Ground.phase }], guard := none }) rfl (fun K hK => ?_) AllReadyH.nil)
        refine wp_storeA _ _ _ rfl G8 [c0, c1] [0, 0] rfl rfl i8_ rfl Tryd.sizeEis ?_
        obtain ⟨wz11, hwz⟩ : ∃ v, v = World.setRow wz10 G8 (ia [c0, c1]) := ⟨_, rfl⟩
        rw [← hwz]
        have hbz11 : Below W2.heap.size W2 wz11 := by rw [hwz]; exact below_rowA hbz10 g8 _
        replace i8_ := BlkI.setRowA i8_ [c0, c1]
        rw [← hwz] at i8_
        replace i6_ := BlkI.setRowO i6_ (B' := G8) (by omega) (ia [c0, c1])
        rw [← hwz] at i6_
        replace i7_ := BlkI.setRowO i7_ (B' := G8) (by omega) (ia [c0, c1])
        rw [← hwz] at i7_
        clear hwz
        refine hK.out _ _ ⟨cellb d0 hbz11, cellb d1 hbz11, cellb d2 hbz11, cellb d3 hbz11, cellb d4 hbz11, cellb d5 hbz11⟩ (fun hHeld6 => ?_)
        clear hK K hHeld5
        try simp only [Act.put, List.setIfInBounds_toArray, List.set_cons_zero, List.set_cons_succ]
        refine wpAnyH_done (by kernel_rfl) ?_ _
        clear hHeld6
        go_wp2_with fail
        go_meet
        exact ⟨G6, G7, G8, rfl, rfl, rfl, i6_, i7_, i8_, hbz11⟩
    · go_simp
      obtain ⟨wz8, hwz⟩ : ∃ v, v = wzd.alloc (Obj.cells #[.int .i64 0, .int .i64 0] 88) := ⟨_, rfl⟩
      rw [← hwz]
      have hl : Below wzd.heap.size wzd wz8 := by rw [hwz]; exact below_new _ _
      have hbz8 := bthen hbzd hl
      obtain ⟨G8, hG⟩ : ∃ G, G = wzd.heap.size := ⟨_, rfl⟩
      have i8_ : BlkI wz8 G8 88 [0, 0] := by rw [hwz, hG]; exact Blk.new _ _ _
      have g8 : W2.heap.size ≤ G8 := by rw [hG]; exact (hbzd).size
      try (have q68 : G6 < G8 := by rw [hG]; exact Blk.lt i6_)
      try (have q78 : G7 < G8 := by rw [hG]; exact Blk.lt i7_)
      rw [← hG]
      clear hG
      clear hwz
      clear hl
      refine hK.out _ _ ⟨cellb d0 hbz8, cellb d1 hbz8, cellb d2 hbz8, cellb d3 hbz8, cellb d4 hbz8, cellb d5 hbz8⟩ (fun hHeld1 => ?_)
      clear hK K hHeld0
      try simp only [Act.put, List.setIfInBounds_toArray, List.set_cons_zero, List.set_cons_succ]
      refine wpAnyH_ready (rs := [6, 7]) (by kernel_rfl) (by simp) ?_
      refine (AllReadyH.cons (o := { dst := some 3, op := Op.alloc 88, type := 0, pos := "phasor.go:206", after := #[], guard := none }) rfl (fun K hK => ?_) (AllReadyH.cons (o := { dst := some 4, op := Op.alloc 88, type := 0, pos := "phasor.go:206", after := #[], guard := none }) rfl (fun K hK => ?_) AllReadyH.nil))
      · go_simp
        obtain ⟨wz6, hwz⟩ : ∃ v, v = wz8.alloc (Obj.cells #[.int .i64 0, .int .i64 0] 88) := ⟨_, rfl⟩
        rw [← hwz]
        have hl : Below wz8.heap.size wz8 wz6 := by rw [hwz]; exact below_new _ _
        have hbz6 := bthen hbz8 hl
        obtain ⟨G6, hG⟩ : ∃ G, G = wz8.heap.size := ⟨_, rfl⟩
        have i6_ : BlkI wz6 G6 88 [0, 0] := by rw [hwz, hG]; exact Blk.new _ _ _
        have g6 : W2.heap.size ≤ G6 := by rw [hG]; exact (hbz8).size
        try (have q76 : G7 < G6 := by rw [hG]; exact Blk.lt i7_)
        try (have q86 : G8 < G6 := by rw [hG]; exact Blk.lt i8_)
        rw [← hG]
        clear hG
        clear hwz
        have i8_ := i8_.carry hl
        clear hl
        refine hK.out _ _ ⟨cellb d0 hbz6, cellb d1 hbz6, cellb d2 hbz6, cellb d3 hbz6, cellb d4 hbz6, cellb d5 hbz6⟩ (fun hHeld2 => ?_)
        clear hK K hHeld1
        try simp only [Act.put, List.setIfInBounds_toArray, List.set_cons_zero, List.set_cons_succ]
        refine wpAnyH_ready (rs := [7]) (by kernel_rfl) (by simp) ?_
        refine (AllReadyH.cons (o := { dst := some 4, op := Op.alloc 88, type := 0, pos := "phasor.go:206", after := #[], guard := none }) rfl (fun K hK => ?_) AllReadyH.nil)
        go_simp
        obtain ⟨wz7, hwz⟩ : ∃ v, v = wz6.alloc (Obj.cells #[.int .i64 0, .int .i64 0] 88) := ⟨_, rfl⟩
        rw [← hwz]
        have hl : Below wz6.heap.size wz6 wz7 := by rw [hwz]; exact below_new _ _
        have hbz7 := bthen hbz6 hl
        obtain ⟨G7, hG⟩ : ∃ G, G = wz6.heap.size := ⟨_, rfl⟩
        have i7_ : BlkI wz7 G7 88 [0, 0] := by rw [hwz, hG]; exact Blk.new _ _ _
        have g7 : W2.heap.size ≤ G7 := by rw [hG]; exact (hbz6).size
        try (have q67 : G6 < G7 := by rw [hG]; exact Blk.lt i6_)
        try (have q87 : G8 < G7 := by rw [hG]; exact Blk.lt i8_)
        rw [← hG]
        clear hG
        clear hwz
        have i8_ := i8_.carry hl
        have i6_ := i6_.carry hl
        clear hl
        refine hK.out _ _ ⟨cellb d0 hbz7, cellb d1 hbz7, cellb d2 hbz7, cellb d3 hbz7, cellb d4 hbz7, cellb d5 hbz7⟩ (fun hHeld3 => ?_)
        clear hK K hHeld2
        try simp only [Act.put, List.setIfInBounds_toArray, List.set_cons_zero, List.set_cons_succ]
        refine wpAnyH_ready (rs := [9]) (by kernel_rfl) (by simp) ?_
        refine (AllReadyH.cons (o := { dst := none, op := Op.store 88 (Operand.tmp 3) (Operand.tmp 7), type := 0, pos := "phasor.go:206", after := #[{ on := 6, ground := Ground.data }, { on := 1, ground := Ground.data }, { on := 0, ground := Ground.phase }, { on := 1, ground := Ground.phase }, { on := 2, ground := Ground.textOnly Departure.lateStores }, { on := 3, ground := Ground.textOnly Departure.lateStores }, { on := 4, ground := Ground.textOnly Departure.lateStores }, { on := 5, ground := Ground.textOnly Departure.lateStores }, { on := 6, ground := Ground.phase }, { on := 7, ground := Ground.phase }, { on := 8, ground := Ground.phase }], guard := none }) rfl (fun K hK => ?_) AllReadyH.nil)
        refine wp_storeA _ _ _ rfl G6 [a0, a1] [0, 0] rfl rfl i6_ rfl Tryd.sizeEis ?_
        obtain ⟨wz9, hwz⟩ : ∃ v, v = World.setRow wz7 G6 (ia [a0, a1]) := ⟨_, rfl⟩
        rw [← hwz]
        have hbz9 : Below W2.heap.size W2 wz9 := by rw [hwz]; exact below_rowA hbz7 g6 _
        replace i6_ := BlkI.setRowA i6_ [a0, a1]
        rw [← hwz] at i6_
        replace i7_ := BlkI.setRowO i7_ (B' := G6) (by omega) (ia [a0, a1])
        rw [← hwz] at i7_
        replace i8_ := BlkI.setRowO i8_ (B' := G6) (by omega) (ia [a0, a1])
        rw [← hwz] at i8_
        clear hwz
        refine hK.out _ _ ⟨cellb d0 hbz9, cellb d1 hbz9, cellb d2 hbz9, cellb d3 hbz9, cellb d4 hbz9, cellb d5 hbz9⟩ (fun hHeld4 => ?_)
        clear hK K hHeld3
        try simp only [Act.put, List.setIfInBounds_toArray, List.set_cons_zero, List.set_cons_succ]
        refine wpAnyH_ready (rs := [10]) (by kernel_rfl) (by simp) ?_
        refine (AllReadyH.cons (o := { dst := none, op := Op.store 88 (Operand.tmp 4) (Operand.tmp 9), type := 0, pos := "phasor.go:206", after := #[{ on := 7, ground := Ground.data }, { on := 3, ground := Ground.data }, { on := 9, ground := Ground.chain }, { on := 0, ground := Ground.phase }, { on := 1, ground := Ground.phase }, { on := 2, ground := Ground.phase }, { on := 3, ground := Ground.phase }, { on := 4, ground := Ground.textOnly Departure.lateStores }, { on := 5, ground := Ground.textOnly Departure.lateStores }, { on := 6, ground := Ground.phase }, { on := 7, ground := Ground.phase }, { on := 8, ground := Ground.phase }, { on := 9, ground := Ground.phase }], guard := none }) rfl (fun K hK => ?_) AllReadyH.nil)
        refine wp_storeA _ _ _ rfl G7 [b0, b1] [0, 0] rfl rfl i7_ rfl Tryd.sizeEis ?_
        obtain ⟨wz10, hwz⟩ : ∃ v, v = World.setRow wz9 G7 (ia [b0, b1]) := ⟨_, rfl⟩
        rw [← hwz]
        have hbz10 : Below W2.heap.size W2 wz10 := by rw [hwz]; exact below_rowA hbz9 g7 _
        replace i7_ := BlkI.setRowA i7_ [b0, b1]
        rw [← hwz] at i7_
        replace i6_ := BlkI.setRowO i6_ (B' := G7) (by omega) (ia [b0, b1])
        rw [← hwz] at i6_
        replace i8_ := BlkI.setRowO i8_ (B' := G7) (by omega) (ia [b0, b1])
        rw [← hwz] at i8_
        clear hwz
        refine hK.out _ _ ⟨cellb d0 hbz10, cellb d1 hbz10, cellb d2 hbz10, cellb d3 hbz10, cellb d4 hbz10, cellb d5 hbz10⟩ (fun hHeld5 => ?_)
        clear hK K hHeld4
        try simp only [Act.put, List.setIfInBounds_toArray, List.set_cons_zero, List.set_cons_succ]
        refine wpAnyH_ready (rs := [11]) (by kernel_rfl) (by simp) ?_
        refine (AllReadyH.cons (o := { dst := none, op := Op.store 88 (Operand.tmp 5) (Operand.tmp 11), type := 0, pos := "phasor.go:206", after := #[{ on := 8, ground := Ground.data }, { on := 5, ground := Ground.data }, { on := 10, ground := Ground.chain }, { on := 0, ground := Ground.phase }, { on := 1, ground := Ground.phase }, { on := 2, ground := Ground.phase }, { on := 3, ground := Ground.phase }, { on := 4, ground := Ground.phase }, { on := 5, ground := Ground.phase }, { on := 6, ground := Ground.phase }, { on := 7, ground := Ground.phase }, { on := 8, ground := Ground.phase }, { on := 9, ground := Ground.phase }, { on := 10, ground := Ground.phase }], guard := none }) rfl (fun K hK => ?_) AllReadyH.nil)
        refine wp_storeA _ _ _ rfl G8 [c0, c1] [0, 0] rfl rfl i8_ rfl Tryd.sizeEis ?_
        obtain ⟨wz11, hwz⟩ : ∃ v, v = World.setRow wz10 G8 (ia [c0, c1]) := ⟨_, rfl⟩
        rw [← hwz]
        have hbz11 : Below W2.heap.size W2 wz11 := by rw [hwz]; exact below_rowA hbz10 g8 _
        replace i8_ := BlkI.setRowA i8_ [c0, c1]
        rw [← hwz] at i8_
        replace i6_ := BlkI.setRowO i6_ (B' := G8) (by omega) (ia [c0, c1])
        rw [← hwz] at i6_
        replace i7_ := BlkI.setRowO i7_ (B' := G8) (by omega) (ia [c0, c1])
        rw [← hwz] at i7_
        clear hwz
        refine hK.out _ _ ⟨cellb d0 hbz11, cellb d1 hbz11, cellb d2 hbz11, cellb d3 hbz11, cellb d4 hbz11, cellb d5 hbz11⟩ (fun hHeld6 => ?_)
        clear hK K hHeld5
        try simp only [Act.put, List.setIfInBounds_toArray, List.set_cons_zero, List.set_cons_succ]
        refine wpAnyH_done (by kernel_rfl) ?_ _
        clear hHeld6
        go_wp2_with fail
        go_meet
        exact ⟨G6, G7, G8, rfl, rfl, rfl, i6_, i7_, i8_, hbz11⟩
      · go_simp
        obtain ⟨wz7, hwz⟩ : ∃ v, v = wz8.alloc (Obj.cells #[.int .i64 0, .int .i64 0] 88) := ⟨_, rfl⟩
        rw [← hwz]
        have hl : Below wz8.heap.size wz8 wz7 := by rw [hwz]; exact below_new _ _
        have hbz7 := bthen hbz8 hl
        obtain ⟨G7, hG⟩ : ∃ G, G = wz8.heap.size := ⟨_, rfl⟩
        have i7_ : BlkI wz7 G7 88 [0, 0] := by rw [hwz, hG]; exact Blk.new _ _ _
        have g7 : W2.heap.size ≤ G7 := by rw [hG]; exact (hbz8).size
        try (have q67 : G6 < G7 := by rw [hG]; exact Blk.lt i6_)
        try (have q87 : G8 < G7 := by rw [hG]; exact Blk.lt i8_)
        rw [← hG]
        clear hG
        clear hwz
        have i8_ := i8_.carry hl
        clear hl
        refine hK.out _ _ ⟨cellb d0 hbz7, cellb d1 hbz7, cellb d2 hbz7, cellb d3 hbz7, cellb d4 hbz7, cellb d5 hbz7⟩ (fun hHeld2 => ?_)
        clear hK K hHeld1
        try simp only [Act.put, List.setIfInBounds_toArray, List.set_cons_zero, List.set_cons_succ]
        refine wpAnyH_ready (rs := [6]) (by kernel_rfl) (by simp) ?_
        refine (AllReadyH.cons (o := { dst := some 3, op := Op.alloc 88, type := 0, pos := "phasor.go:206", after := #[], guard := none }) rfl (fun K hK => ?_) AllReadyH.nil)
        go_simp
        obtain ⟨wz6, hwz⟩ : ∃ v, v = wz7.alloc (Obj.cells #[.int .i64 0, .int .i64 0] 88) := ⟨_, rfl⟩
        rw [← hwz]
        have hl : Below wz7.heap.size wz7 wz6 := by rw [hwz]; exact below_new _ _
        have hbz6 := bthen hbz7 hl
        obtain ⟨G6, hG⟩ : ∃ G, G = wz7.heap.size := ⟨_, rfl⟩
        have i6_ : BlkI wz6 G6 88 [0, 0] := by rw [hwz, hG]; exact Blk.new _ _ _
        have g6 : W2.heap.size ≤ G6 := by rw [hG]; exact (hbz7).size
        try (have q76 : G7 < G6 := by rw [hG]; exact Blk.lt i7_)
        try (have q86 : G8 < G6 := by rw [hG]; exact Blk.lt i8_)
        rw [← hG]
        clear hG
        clear hwz
        have i8_ := i8_.carry hl
        have i7_ := i7_.carry hl
        clear hl
        refine hK.out _ _ ⟨cellb d0 hbz6, cellb d1 hbz6, cellb d2 hbz6, cellb d3 hbz6, cellb d4 hbz6, cellb d5 hbz6⟩ (fun hHeld3 => ?_)
        clear hK K hHeld2
        try simp only [Act.put, List.setIfInBounds_toArray, List.set_cons_zero, List.set_cons_succ]
        refine wpAnyH_ready (rs := [9]) (by kernel_rfl) (by simp) ?_
        refine (AllReadyH.cons (o := { dst := none, op := Op.store 88 (Operand.tmp 3) (Operand.tmp 7), type := 0, pos := "phasor.go:206", after := #[{ on := 6, ground := Ground.data }, { on := 1, ground := Ground.data }, { on := 0, ground := Ground.phase }, { on := 1, ground := Ground.phase }, { on := 2, ground := Ground.textOnly Departure.lateStores }, { on := 3, ground := Ground.textOnly Departure.lateStores }, { on := 4, ground := Ground.textOnly Departure.lateStores }, { on := 5, ground := Ground.textOnly Departure.lateStores }, { on := 6, ground := Ground.phase }, { on := 7, ground := Ground.phase }, { on := 8, ground := Ground.phase }], guard := none }) rfl (fun K hK => ?_) AllReadyH.nil)
        refine wp_storeA _ _ _ rfl G6 [a0, a1] [0, 0] rfl rfl i6_ rfl Tryd.sizeEis ?_
        obtain ⟨wz9, hwz⟩ : ∃ v, v = World.setRow wz6 G6 (ia [a0, a1]) := ⟨_, rfl⟩
        rw [← hwz]
        have hbz9 : Below W2.heap.size W2 wz9 := by rw [hwz]; exact below_rowA hbz6 g6 _
        replace i6_ := BlkI.setRowA i6_ [a0, a1]
        rw [← hwz] at i6_
        replace i7_ := BlkI.setRowO i7_ (B' := G6) (by omega) (ia [a0, a1])
        rw [← hwz] at i7_
        replace i8_ := BlkI.setRowO i8_ (B' := G6) (by omega) (ia [a0, a1])
        rw [← hwz] at i8_
        clear hwz
        refine hK.out _ _ ⟨cellb d0 hbz9, cellb d1 hbz9, cellb d2 hbz9, cellb d3 hbz9, cellb d4 hbz9, cellb d5 hbz9⟩ (fun hHeld4 => ?_)
        clear hK K hHeld3
        try simp only [Act.put, List.setIfInBounds_toArray, List.set_cons_zero, List.set_cons_succ]
        refine wpAnyH_ready (rs := [10]) (by kernel_rfl) (by simp) ?_
        refine (AllReadyH.cons (o := { dst := none, op := Op.store 88 (Operand.tmp 4) (Operand.tmp 9), type := 0, pos := "phasor.go:206", after := #[{ on := 7, ground := Ground.data }, { on := 3, ground := Ground.data }, { on := 9, ground := Ground.chain }, { on := 0, ground := Ground.phase }, { on := 1, ground := Ground.phase }, { on := 2, ground := Ground.phase }, { on := 3, ground := Ground.phase }, { on := 4, ground := Ground.textOnly Departure.lateStores }, { on := 5, ground := Ground.textOnly Departure.lateStores }, { on := 6, ground := Ground.phase }, { on := 7, ground := Ground.phase }, { on := 8, ground := Ground.phase }, { on := 9, ground := Ground.phase }], guard := none }) rfl (fun K hK => ?_) AllReadyH.nil)
        refine wp_storeA _ _ _ rfl G7 [b0, b1] [0, 0] rfl rfl i7_ rfl Tryd.sizeEis ?_
        obtain ⟨wz10, hwz⟩ : ∃ v, v = World.setRow wz9 G7 (ia [b0, b1]) := ⟨_, rfl⟩
        rw [← hwz]
        have hbz10 : Below W2.heap.size W2 wz10 := by rw [hwz]; exact below_rowA hbz9 g7 _
        replace i7_ := BlkI.setRowA i7_ [b0, b1]
        rw [← hwz] at i7_
        replace i6_ := BlkI.setRowO i6_ (B' := G7) (by omega) (ia [b0, b1])
        rw [← hwz] at i6_
        replace i8_ := BlkI.setRowO i8_ (B' := G7) (by omega) (ia [b0, b1])
        rw [← hwz] at i8_
        clear hwz
        refine hK.out _ _ ⟨cellb d0 hbz10, cellb d1 hbz10, cellb d2 hbz10, cellb d3 hbz10, cellb d4 hbz10, cellb d5 hbz10⟩ (fun hHeld5 => ?_)
        clear hK K hHeld4
        try simp only [Act.put, List.setIfInBounds_toArray, List.set_cons_zero, List.set_cons_succ]
        refine wpAnyH_ready (rs := [11]) (by kernel_rfl) (by simp) ?_
        refine (AllReadyH.cons (o := { dst := none, op := Op.store 88 (Operand.tmp 5) (Operand.tmp 11), type := 0, pos := "phasor.go:206", after := #[{ on := 8, ground := Ground.data }, { on := 5, ground := Ground.data }, { on := 10, ground := Ground.chain }, { on := 0, ground := Ground.phase }, { on := 1, ground := Ground.phase }, { on := 2, ground := Ground.phase }, { on := 3, ground := Ground.phase }, { on := 4, ground := Ground.phase }, { on := 5, ground := Ground.phase }, { on := 6, ground := Ground.phase }, { on := 7, ground := Ground.phase }, { on := 8, ground := Ground.phase }, { on := 9, ground := Ground.phase }, { on := 10, ground := Ground.phase }], guard := none }) rfl (fun K hK => ?_) AllReadyH.nil)
        refine wp_storeA _ _ _ rfl G8 [c0, c1] [0, 0] rfl rfl i8_ rfl Tryd.sizeEis ?_
        obtain ⟨wz11, hwz⟩ : ∃ v, v = World.setRow wz10 G8 (ia [c0, c1]) := ⟨_, rfl⟩
        rw [← hwz]
        have hbz11 : Below W2.heap.size W2 wz11 := by rw [hwz]; exact below_rowA hbz10 g8 _
        replace i8_ := BlkI.setRowA i8_ [c0, c1]
        rw [← hwz] at i8_
        replace i6_ := BlkI.setRowO i6_ (B' := G8) (by omega) (ia [c0, c1])
        rw [← hwz] at i6_
        replace i7_ := BlkI.setRowO i7_ (B' := G8) (by omega) (ia [c0, c1])
        rw [← hwz] at i7_
        clear hwz
        refine hK.out _ _ ⟨cellb d0 hbz11, cellb d1 hbz11, cellb d2 hbz11, cellb d3 hbz11, cellb d4 hbz11, cellb d5 hbz11⟩ (fun hHeld6 => ?_)
        clear hK K hHeld5
        try simp only [Act.put, List.setIfInBounds_toArray, List.set_cons_zero, List.set_cons_succ]
        refine wpAnyH_done (by kernel_rfl) ?_ _
        clear hHeld6
        go_wp2_with fail
        go_meet
        exact ⟨G6, G7, G8, rfl, rfl, rfl, i6_, i7_, i8_, hbz11⟩
  case rest =>
    obtain ⟨b3, b4, b5, rfl, rfl, rfl, j3, j4, j5, hbn⟩ := hcut
    have hB9 := bthen hB hbn
    have hT9 := hT2.carry hbn
    have i2 : BlkI wc (w.heap.size + 1) 36 [0, 0, 0, 0, 0, 0] := Blk.carry i2 hbn
    clear i1 hbn hB hT2 d0 d1 d2 d3 d4 d5 hsz
    have e0 : wc.cell? ⟨b3, 0, none⟩ = some (.int .i64 a0) := BlkI.cell j3 (j := 0) (by simp)
    have e1 : wc.cell? ⟨b3, 1, none⟩ = some (.int .i64 a1) := BlkI.cell j3 (j := 1) (by simp)
    have e2 : wc.cell? ⟨b4, 0, none⟩ = some (.int .i64 b0) := BlkI.cell j4 (j := 0) (by simp)
    have e3 : wc.cell? ⟨b4, 1, none⟩ = some (.int .i64 b1) := BlkI.cell j4 (j := 1) (by simp)
    have e4 : wc.cell? ⟨b5, 0, none⟩ = some (.int .i64 c0) := BlkI.cell j5 (j := 0) (by simp)
    have e5 : wc.cell? ⟨b5, 1, none⟩ = some (.int .i64 c1) := BlkI.cell j5 (j := 1) (by simp)
    obtain ⟨⟨t0, t1⟩, t2, t3⟩ := hT9
    clear j3 j4 j5
    go_upto_region 2 with fail
    refine wp_region_E 24 (by kernel_rfl) ?_
    obtain ⟨wz, hwz⟩ : ∃ v, v = wc.drew := ⟨_, rfl⟩
    rw [← hwz]
    have hlz : Below wc.heap.size wc wz := by rw [hwz]; exact (Below.refl _ _).drew
    have hbz := bthen hB9 hlz
    have e0 := cellb e0 hlz
    have e1 := cellb e1 hlz
    have e2 := cellb e2 hlz
    have e3 := cellb e3 hlz
    have e4 := cellb e4 hlz
    have e5 := cellb e5 hlz
    have t0 := cellb t0 hlz
    have t1 := cellb t1 hlz
    have t2 := cellb t2 hlz
    have t3 := cellb t3 hlz
    have i2 := i2.carry hlz
    clear hwz hlz
    refine wpAnyE_take (i := 0) (oi := { dst := some 12, op := Op.load 88 (Operand.tmp 3), type := 88, pos := "phasor.go:207", after := #[], guard := none }) (v := ?_) rfl (by kernel_rfl) (by kernel_rfl) (by kernel_rfl) (by kernel_rfl) (fun _ _ _ h => h) (Or.inl ⟨by rfl, ?_⟩) ?_
    rotate_left
    · (intro w hE; have e0 := cellb e0 hE; have e1 := cellb e1 hE; have e2 := cellb e2 hE; have e3 := cellb e3 hE; have e4 := cellb e4 hE; have e5 := cellb e5 hE; have t0 := cellb t0 hE; have t1 := cellb t1 hE; have t2 := cellb t2 hE; have t3 := cellb t3 hE; (try dsimp only); go_simp); (try with_reducible rfl)
    try simp only [Act.put, List.setIfInBounds_toArray, List.set_cons_zero, List.set_cons_succ]
    refine wpAnyE_take (i := 1) (oi := { dst := some 13, op := Op.load 88 (Operand.tmp 4), type := 88, pos := "phasor.go:207", after := #[], guard := none }) (v := ?_) rfl (by kernel_rfl) (by kernel_rfl) (by kernel_rfl) (by kernel_rfl) (fun _ _ _ h => h) (Or.inl ⟨by rfl, ?_⟩) ?_
    rotate_left
    · (intro w hE; have e0 := cellb e0 hE; have e1 := cellb e1 hE; have e2 := cellb e2 hE; have e3 := cellb e3 hE; have e4 := cellb e4 hE; have e5 := cellb e5 hE; have t0 := cellb t0 hE; have t1 := cellb t1 hE; have t2 := cellb t2 hE; have t3 := cellb t3 hE; (try dsimp only); go_simp); (try with_reducible rfl)
    try simp only [Act.put, List.setIfInBounds_toArray, List.set_cons_zero, List.set_cons_succ]
    refine wpAnyE_take (i := 3) (oi := { dst := some 15, op := Op.load 88 (Operand.tmp 5), type := 88, pos := "phasor.go:207", after := #[], guard := none }) (v := ?_) rfl (by kernel_rfl) (by kernel_rfl) (by kernel_rfl) (by kernel_rfl) (fun _ _ _ h => h) (Or.inl ⟨by rfl, ?_⟩) ?_
    rotate_left
    · (intro w hE; have e0 := cellb e0 hE; have e1 := cellb e1 hE; have e2 := cellb e2 hE; have e3 := cellb e3 hE; have e4 := cellb e4 hE; have e5 := cellb e5 hE; have t0 := cellb t0 hE; have t1 := cellb t1 hE; have t2 := cellb t2 hE; have t3 := cellb t3 hE; (try dsimp only); go_simp); (try with_reducible rfl)
    try simp only [Act.put, List.setIfInBounds_toArray, List.set_cons_zero, List.set_cons_succ]
    refine wpAnyE_take (i := 5) (oi := { dst := some 17, op := Op.load 88 (Operand.tmp 3), type := 88, pos := "phasor.go:207", after := #[], guard := none }) (v := ?_) rfl (by kernel_rfl) (by kernel_rfl) (by kernel_rfl) (by kernel_rfl) (fun _ _ _ h => h) (Or.inl ⟨by rfl, ?_⟩) ?_
    rotate_left
    · (intro w hE; have e0 := cellb e0 hE; have e1 := cellb e1 hE; have e2 := cellb e2 hE; have e3 := cellb e3 hE; have e4 := cellb e4 hE; have e5 := cellb e5 hE; have t0 := cellb t0 hE; have t1 := cellb t1 hE; have t2 := cellb t2 hE; have t3 := cellb t3 hE; (try dsimp only); go_simp); (try with_reducible rfl)
    try simp only [Act.put, List.setIfInBounds_toArray, List.set_cons_zero, List.set_cons_succ]
    refine wpAnyE_take (i := 6) (oi := { dst := some 18, op := Op.load 88 (Operand.global 0), type := 88, pos := "phasor.go:207", after := #[], guard := none }) (v := ?_) rfl (by kernel_rfl) (by kernel_rfl) (by kernel_rfl) (by kernel_rfl) (fun _ _ _ h => h) (Or.inl ⟨by rfl, ?_⟩) ?_
    rotate_left
    · (intro w hE; have e0 := cellb e0 hE; have e1 := cellb e1 hE; have e2 := cellb e2 hE; have e3 := cellb e3 hE; have e4 := cellb e4 hE; have e5 := cellb e5 hE; have t0 := cellb t0 hE; have t1 := cellb t1 hE; have t2 := cellb t2 hE; have t3 := cellb t3 hE; (try dsimp only); go_simp); (try with_reducible rfl)
    try simp only [Act.put, List.setIfInBounds_toArray, List.set_cons_zero, List.set_cons_succ]
    refine wpAnyE_take (i := 7) (oi := { dst := some 19, op := Op.load 88 (Operand.tmp 4), type := 88, pos := "phasor.go:207", after := #[], guard := none }) (v := ?_) rfl (by kernel_rfl) (by kernel_rfl) (by kernel_rfl) (by kernel_rfl) (fun _ _ _ h => h) (Or.inl ⟨by rfl, ?_⟩) ?_
    rotate_left
    · (intro w hE; have e0 := cellb e0 hE; have e1 := cellb e1 hE; have e2 := cellb e2 hE; have e3 := cellb e3 hE; have e4 := cellb e4 hE; have e5 := cellb e5 hE; have t0 := cellb t0 hE; have t1 := cellb t1 hE; have t2 := cellb t2 hE; have t3 := cellb t3 hE; (try dsimp only); go_simp); (try with_reducible rfl)
    try simp only [Act.put, List.setIfInBounds_toArray, List.set_cons_zero, List.set_cons_succ]
    refine wpAnyE_take (i := 10) (oi := { dst := some 22, op := Op.load 88 (Operand.global 1), type := 88, pos := "phasor.go:207", after := #[], guard := none }) (v := ?_) rfl (by kernel_rfl) (by kernel_rfl) (by kernel_rfl) (by kernel_rfl) (fun _ _ _ h => h) (Or.inl ⟨by rfl, ?_⟩) ?_
    rotate_left
    · (intro w hE; have e0 := cellb e0 hE; have e1 := cellb e1 hE; have e2 := cellb e2 hE; have e3 := cellb e3 hE; have e4 := cellb e4 hE; have e5 := cellb e5 hE; have t0 := cellb t0 hE; have t1 := cellb t1 hE; have t2 := cellb t2 hE; have t3 := cellb t3 hE; (try dsimp only); go_simp); (try with_reducible rfl)
    try simp only [Act.put, List.setIfInBounds_toArray, List.set_cons_zero, List.set_cons_succ]
    refine wpAnyE_take (i := 11) (oi := { dst := some 23, op := Op.load 88 (Operand.tmp 5), type := 88, pos := "phasor.go:207", after := #[], guard := none }) (v := ?_) rfl (by kernel_rfl) (by kernel_rfl) (by kernel_rfl) (by kernel_rfl) (fun _ _ _ h => h) (Or.inl ⟨by rfl, ?_⟩) ?_
    rotate_left
    · (intro w hE; have e0 := cellb e0 hE; have e1 := cellb e1 hE; have e2 := cellb e2 hE; have e3 := cellb e3 hE; have e4 := cellb e4 hE; have e5 := cellb e5 hE; have t0 := cellb t0 hE; have t1 := cellb t1 hE; have t2 := cellb t2 hE; have t3 := cellb t3 hE; (try dsimp only); go_simp); (try with_reducible rfl)
    try simp only [Act.put, List.setIfInBounds_toArray, List.set_cons_zero, List.set_cons_succ]
    refine wpAnyE_take (i := 14) (oi := { dst := some 26, op := Op.load 88 (Operand.tmp 3), type := 88, pos := "phasor.go:207", after := #[], guard := none }) (v := ?_) rfl (by kernel_rfl) (by kernel_rfl) (by kernel_rfl) (by kernel_rfl) (fun _ _ _ h => h) (Or.inl ⟨by rfl, ?_⟩) ?_
    rotate_left
    · (intro w hE; have e0 := cellb e0 hE; have e1 := cellb e1 hE; have e2 := cellb e2 hE; have e3 := cellb e3 hE; have e4 := cellb e4 hE; have e5 := cellb e5 hE; have t0 := cellb t0 hE; have t1 := cellb t1 hE; have t2 := cellb t2 hE; have t3 := cellb t3 hE; (try dsimp only); go_simp); (try with_reducible rfl)
    try simp only [Act.put, List.setIfInBounds_toArray, List.set_cons_zero, List.set_cons_succ]
    refine wpAnyE_take (i := 15) (oi := { dst := some 27, op := Op.load 88 (Operand.global 1), type := 88, pos := "phasor.go:207", after := #[], guard := none }) (v := ?_) rfl (by kernel_rfl) (by kernel_rfl) (by kernel_rfl) (by kernel_rfl) (fun _ _ _ h => h) (Or.inl ⟨by rfl, ?_⟩) ?_
    rotate_left
    · (intro w hE; have e0 := cellb e0 hE; have e1 := cellb e1 hE; have e2 := cellb e2 hE; have e3 := cellb e3 hE; have e4 := cellb e4 hE; have e5 := cellb e5 hE; have t0 := cellb t0 hE; have t1 := cellb t1 hE; have t2 := cellb t2 hE; have t3 := cellb t3 hE; (try dsimp only); go_simp); (try with_reducible rfl)
    try simp only [Act.put, List.setIfInBounds_toArray, List.set_cons_zero, List.set_cons_succ]
    refine wpAnyE_take (i := 16) (oi := { dst := some 28, op := Op.load 88 (Operand.tmp 4), type := 88, pos := "phasor.go:207", after := #[], guard := none }) (v := ?_) rfl (by kernel_rfl) (by kernel_rfl) (by kernel_rfl) (by kernel_rfl) (fun _ _ _ h => h) (Or.inl ⟨by rfl, ?_⟩) ?_
    rotate_left
    · (intro w hE; have e0 := cellb e0 hE; have e1 := cellb e1 hE; have e2 := cellb e2 hE; have e3 := cellb e3 hE; have e4 := cellb e4 hE; have e5 := cellb e5 hE; have t0 := cellb t0 hE; have t1 := cellb t1 hE; have t2 := cellb t2 hE; have t3 := cellb t3 hE; (try dsimp only); go_simp); (try with_reducible rfl)
    try simp only [Act.put, List.setIfInBounds_toArray, List.set_cons_zero, List.set_cons_succ]
    refine wpAnyE_take (i := 19) (oi := { dst := some 31, op := Op.load 88 (Operand.global 0), type := 88, pos := "phasor.go:207", after := #[], guard := none }) (v := ?_) rfl (by kernel_rfl) (by kernel_rfl) (by kernel_rfl) (by kernel_rfl) (fun _ _ _ h => h) (Or.inl ⟨by rfl, ?_⟩) ?_
    rotate_left
    · (intro w hE; have e0 := cellb e0 hE; have e1 := cellb e1 hE; have e2 := cellb e2 hE; have e3 := cellb e3 hE; have e4 := cellb e4 hE; have e5 := cellb e5 hE; have t0 := cellb t0 hE; have t1 := cellb t1 hE; have t2 := cellb t2 hE; have t3 := cellb t3 hE; (try dsimp only); go_simp); (try with_reducible rfl)
    try simp only [Act.put, List.setIfInBounds_toArray, List.set_cons_zero, List.set_cons_succ]
    refine wpAnyE_take (i := 20) (oi := { dst := some 32, op := Op.load 88 (Operand.tmp 5), type := 88, pos := "phasor.go:207", after := #[], guard := none }) (v := ?_) rfl (by kernel_rfl) (by kernel_rfl) (by kernel_rfl) (by kernel_rfl) (fun _ _ _ h => h) (Or.inl ⟨by rfl, ?_⟩) ?_
    rotate_left
    · (intro w hE; have e0 := cellb e0 hE; have e1 := cellb e1 hE; have e2 := cellb e2 hE; have e3 := cellb e3 hE; have e4 := cellb e4 hE; have e5 := cellb e5 hE; have t0 := cellb t0 hE; have t1 := cellb t1 hE; have t2 := cellb t2 hE; have t3 := cellb t3 hE; (try dsimp only); go_simp); (try with_reducible rfl)
    try simp only [Act.put, List.setIfInBounds_toArray, List.set_cons_zero, List.set_cons_succ]
    refine wpAnyE_call (i := 2) (oi := { dst := some 14, op := Op.call { callee := Callee.value (Operand.func 37), args := #[Operand.tmp 12, Operand.tmp 13], argTypes := #[88, 88] }, type := 88, pos := "phasor.go:208", after := #[{ on := 0, ground := Ground.data }, { on := 1, ground := Ground.data }], guard := none }) (fun w hE => K2.out w) rfl (by kernel_rfl) (by kernel_rfl) (by kernel_rfl) (by kernel_rfl) (fun _ _ _ h => h) (by rfl) (fun w hE => by (try dsimp only); go_simp) ?_
    try simp only [Act.put, List.setIfInBounds_toArray, List.set_cons_zero, List.set_cons_succ]
    refine wpAnyE_call (i := 4) (oi := { dst := some 16, op := Op.call { callee := Callee.value (Operand.func 37), args := #[Operand.tmp 14, Operand.tmp 15], argTypes := #[88, 88] }, type := 88, pos := "phasor.go:208", after := #[{ on := 2, ground := Ground.data }, { on := 3, ground := Ground.data }, { on := 2, ground := Ground.chain }], guard := none }) (fun w hE => K4.out w) rfl (by kernel_rfl) (by kernel_rfl) (by kernel_rfl) (by kernel_rfl) (fun _ _ _ h => h) (by rfl) (fun w hE => by (try dsimp only); go_simp) ?_
    try simp only [Act.put, List.setIfInBounds_toArray, List.set_cons_zero, List.set_cons_succ]
    refine wpAnyE_call (i := 8) (oi := { dst := some 20, op := Op.call { callee := Callee.value (Operand.func 38), args := #[Operand.tmp 18, Operand.tmp 19], argTypes := #[88, 88] }, type := 88, pos := "phasor.go:209", after := #[{ on := 6, ground := Ground.data }, { on := 7, ground := Ground.data }, { on := 4, ground := Ground.chain }], guard := none }) (fun w hE => K8.out w) rfl (by kernel_rfl) (by kernel_rfl) (by kernel_rfl) (by kernel_rfl) (fun _ _ _ h => h) (by rfl) (fun w hE => by (try dsimp only); go_simp) ?_
    try simp only [Act.put, List.setIfInBounds_toArray, List.set_cons_zero, List.set_cons_succ]
    refine wpAnyE_call (i := 9) (oi := { dst := some 21, op := Op.call { callee := Callee.value (Operand.func 37), args := #[Operand.tmp 17, Operand.tmp 20], argTypes := #[88, 88] }, type := 88, pos := "phasor.go:209", after := #[{ on := 5, ground := Ground.data }, { on := 8, ground := Ground.data }, { on := 8, ground := Ground.chain }], guard := none }) (fun w hE => K9.out w) rfl (by kernel_rfl) (by kernel_rfl) (by kernel_rfl) (by kernel_rfl) (fun _ _ _ h => h) (by rfl) (fun w hE => by (try dsimp only); go_simp) ?_
    try simp only [Act.put, List.setIfInBounds_toArray, List.set_cons_zero, List.set_cons_succ]
    refine wpAnyE_call (i := 12) (oi := { dst := some 24, op := Op.call { callee := Callee.value (Operand.func 38), args := #[Operand.tmp 22, Operand.tmp 23], argTypes := #[88, 88] }, type := 88, pos := "phasor.go:209", after := #[{ on := 10, ground := Ground.data }, { on := 11, ground := Ground.data }, { on := 9, ground := Ground.chain }], guard := none }) (fun w hE => K12.out w) rfl (by kernel_rfl) (by kernel_rfl) (by kernel_rfl) (by kernel_rfl) (fun _ _ _ h => h) (by rfl) (fun w hE => by (try dsimp only); go_simp) ?_
    try simp only [Act.put, List.setIfInBounds_toArray, List.set_cons_zero, List.set_cons_succ]
    refine wpAnyE_call (i := 13) (oi := { dst := some 25, op := Op.call { callee := Callee.value (Operand.func 37), args := #[Operand.tmp 21, Operand.tmp 24], argTypes := #[88, 88] }, type := 88, pos := "phasor.go:209", after := #[{ on := 9, ground := Ground.data }, { on := 12, ground := Ground.data }, { on := 12, ground := Ground.chain }], guard := none }) (fun w hE => K13.out w) rfl (by kernel_rfl) (by kernel_rfl) (by kernel_rfl) (by kernel_rfl) (fun _ _ _ h => h) (by rfl) (fun w hE => by (try dsimp only); go_simp) ?_
    try simp only [Act.put, List.setIfInBounds_toArray, List.set_cons_zero, List.set_cons_succ]
    refine wpAnyE_call (i := 17) (oi := { dst := some 29, op := Op.call { callee := Callee.value (Operand.func 38), args := #[Operand.tmp 27, Operand.tmp 28], argTypes := #[88, 88] }, type := 88, pos := "phasor.go:210", after := #[{ on := 15, ground := Ground.data }, { on := 16, ground := Ground.data }, { on := 13, ground := Ground.chain }], guard := none }) (fun w hE => K17.out w) rfl (by kernel_rfl) (by kernel_rfl) (by kernel_rfl) (by kernel_rfl) (fun _ _ _ h => h) (by rfl) (fun w hE => by (try dsimp only); go_simp) ?_
    try simp only [Act.put, List.setIfInBounds_toArray, List.set_cons_zero, List.set_cons_succ]
    refine wpAnyE_call (i := 18) (oi := { dst := some 30, op := Op.call { callee := Callee.value (Operand.func 37), args := #[Operand.tmp 26, Operand.tmp 29], argTypes := #[88, 88] }, type := 88, pos := "phasor.go:210", after := #[{ on := 14, ground := Ground.data }, { on := 17, ground := Ground.data }, { on := 17, ground := Ground.chain }], guard := none }) (fun w hE => K18.out w) rfl (by kernel_rfl) (by kernel_rfl) (by kernel_rfl) (by kernel_rfl) (fun _ _ _ h => h) (by rfl) (fun w hE => by (try dsimp only); go_simp) ?_
    try simp only [Act.put, List.setIfInBounds_toArray, List.set_cons_zero, List.set_cons_succ]
    refine wpAnyE_call (i := 21) (oi := { dst := some 33, op := Op.call { callee := Callee.value (Operand.func 38), args := #[Operand.tmp 31, Operand.tmp 32], argTypes := #[88, 88] }, type := 88, pos := "phasor.go:210", after := #[{ on := 19, ground := Ground.data }, { on := 20, ground := Ground.data }, { on := 18, ground := Ground.chain }], guard := none }) (fun w hE => K21.out w) rfl (by kernel_rfl) (by kernel_rfl) (by kernel_rfl) (by kernel_rfl) (fun _ _ _ h => h) (by rfl) (fun w hE => by (try dsimp only); go_simp) ?_
    try simp only [Act.put, List.setIfInBounds_toArray, List.set_cons_zero, List.set_cons_succ]
    refine wpAnyE_call (i := 22) (oi := { dst := some 34, op := Op.call { callee := Callee.value (Operand.func 37), args := #[Operand.tmp 30, Operand.tmp 33], argTypes := #[88, 88] }, type := 88, pos := "phasor.go:210", after := #[{ on := 18, ground := Ground.data }, { on := 21, ground := Ground.data }, { on := 21, ground := Ground.chain }], guard := none }) (fun w hE => K22.out w) rfl (by kernel_rfl) (by kernel_rfl) (by kernel_rfl) (by kernel_rfl) (fun _ _ _ h => h) (by rfl) (fun w hE => by (try dsimp only); go_simp) ?_
    try simp only [Act.put, List.setIfInBounds_toArray, List.set_cons_zero, List.set_cons_succ]
    refine wpAnyE_take (i := 23) (oi := { dst := some 35, op := Op.build 36 #[(0, Operand.tmp 16), (1, Operand.tmp 25), (2, Operand.tmp 34)], type := 36, pos := "phasor.go:207", after := #[{ on := 4, ground := Ground.data }, { on := 13, ground := Ground.data }, { on := 22, ground := Ground.data }], guard := none }) (v := ?_) rfl (by kernel_rfl) (by kernel_rfl) (by kernel_rfl) (by kernel_rfl) (fun _ _ _ h => h) (Or.inl ⟨by rfl, ?_⟩) ?_
    rotate_left
    · (intro w hE; have e0 := cellb e0 hE; have e1 := cellb e1 hE; have e2 := cellb e2 hE; have e3 := cellb e3 hE; have e4 := cellb e4 hE; have e5 := cellb e5 hE; have t0 := cellb t0 hE; have t1 := cellb t1 hE; have t2 := cellb t2 hE; have t3 := cellb t3 hE; (try dsimp only); go_simp); (try with_reducible rfl)
    try simp only [Act.put, List.setIfInBounds_toArray, List.set_cons_zero, List.set_cons_succ]
    refine wpAnyE_one (i := 24) (o := { dst := none, op := Op.store 36 (Operand.tmp 2) (Operand.tmp 35), type := 0, pos := "phasor.go:207", after := #[{ on := 23, ground := Ground.data }, { on := 22, ground := Ground.chain }, { on := 0, ground := Ground.phase }, { on := 1, ground := Ground.phase }, { on := 2, ground := Ground.phase }, { on := 3, ground := Ground.phase }, { on := 4, ground := Ground.phase }, { on := 5, ground := Ground.phase }, { on := 6, ground := Ground.phase }, { on := 7, ground := Ground.phase }, { on := 8, ground := Ground.phase }, { on := 9, ground := Ground.phase }, { on := 10, ground := Ground.phase }, { on := 11, ground := Ground.phase }, { on := 12, ground := Ground.phase }, { on := 13, ground := Ground.phase }, { on := 14, ground := Ground.phase }, { on := 15, ground := Ground.phase }, { on := 16, ground := Ground.phase }, { on := 17, ground := Ground.phase }, { on := 18, ground := Ground.phase }, { on := 19, ground := Ground.phase }, { on := 20, ground := Ground.phase }, { on := 21, ground := Ground.phase }, { on := 22, ground := Ground.phase }, { on := 23, ground := Ground.phase }], guard := none }) (by kernel_rfl) rfl (fun wy1 hE K hK => ?_)
    have e0 := cellb e0 hE
    have e1 := cellb e1 hE
    have e2 := cellb e2 hE
    have e3 := cellb e3 hE
    have e4 := cellb e4 hE
    have e5 := cellb e5 hE
    have t0 := cellb t0 hE
    have t1 := cellb t1 hE
    have t2 := cellb t2 hE
    have t3 := cellb t3 hE
    have i2 := i2.carry hE
    have hbz1 := bthen hbz hE
    clear hE
    rw [if_pos (by rfl)]
    refine wp_storeA _ _ _ rfl (w.heap.size + 1) [z0, z1, p0, p1, n0, n1] [0, 0, 0, 0, 0, 0] rfl rfl i2 rfl Tryd.sizeE3 ?_
    obtain ⟨wx1, hwz⟩ : ∃ v, v = World.setRow wy1 (w.heap.size + 1) (ia [z0, z1, p0, p1, n0, n1]) := ⟨_, rfl⟩
    rw [← hwz]
    have hcz1 : Below w.heap.size w wx1 := by rw [hwz]; exact below_rowA hbz1 (by omega) _
    replace i2 := BlkI.setRowA i2 [z0, z1, p0, p1, n0, n1]
    rw [← hwz] at i2
    clear hwz
    refine hK _ _ (fun h => absurd rfl h) ?_
    clear hK K
    try simp only [Act.put, List.setIfInBounds_toArray, List.set_cons_zero, List.set_cons_succ]
    refine wpAnyE_done (by kernel_rfl) (fun wy2 hE => ?_) _
    have hbz2 := bthen hcz1 hE
    have i2 := i2.carry hE
    clear hE
    have hB := hbz2
    obtain ⟨W9, hW9⟩ : ∃ v, v = wy2 := ⟨_, rfl⟩
    rw [← hW9] at hB i2 ⊢
    clear hW9
    go_wp2
    have x0 : W9.cell? ⟨w.heap.size + 1, 0, none⟩ = some (.int .i64 z0) := BlkI.cell i2 (j := 0) (by simp)
    have x1 : W9.cell? ⟨w.heap.size + 1, 1, none⟩ = some (.int .i64 z1) := BlkI.cell i2 (j := 1) (by simp)
    have x2 : W9.cell? ⟨w.heap.size + 1, 2, none⟩ = some (.int .i64 p0) := BlkI.cell i2 (j := 2) (by simp)
    have x3 : W9.cell? ⟨w.heap.size + 1, 3, none⟩ = some (.int .i64 p1) := BlkI.cell i2 (j := 3) (by simp)
    have x4 : W9.cell? ⟨w.heap.size + 1, 4, none⟩ = some (.int .i64 n0) := BlkI.cell i2 (j := 4) (by simp)
    have x5 : W9.cell? ⟨w.heap.size + 1, 5, none⟩ = some (.int .i64 n1) := BlkI.cell i2 (j := 5) (by simp)
    exact bodyPost_ret (v := .agg #[.int .i64 z0, .int .i64 z1, .int .i64 p0, .int .i64 p1, .int .i64 n0, .int .i64 n1]) (by simp [results, Tryd.f28, go_sem, x0, x1, x2, x3, x4, x5]) rfl ⟨rfl, hB⟩
end Go.Proofs.YtjmdnolmaofbiaaDoor

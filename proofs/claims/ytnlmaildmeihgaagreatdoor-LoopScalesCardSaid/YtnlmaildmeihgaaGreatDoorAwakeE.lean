/- awake: the walk. -/
import Derived.Test.YtnlmaildmeihgaaGreatDoorAwakeD
namespace Go.Proofs.YtnlmaildmeihgaaGreatDoor
open Go.RowKit

set_option maxRecDepth 100000 in
set_option maxHeartbeats 20000000 in
theorem awake_any (w : World) (hq : Quarters w) (hp : Pows w) : Calls Tryz.prog 18 #[] w fun e w' => e = .returned (.bool true) ∧ Below w.heap.size w w' := by
  have hB : Below w.heap.size w w := Below.refl _ _
  go_enter Tryz.func18, Tryz.ntmps18
  go_wp2_with fail
  obtain ⟨W1, hW1⟩ : ∃ v, v = World.alloc w (Obj.cells #[.int .i64 1, .int .i64 0, .int .i64 2] 3) := ⟨_, rfl⟩
  have kW1 : Below w.heap.size w W1 := by rw [hW1]; exact below_new _ _
  have iW1 : Blk W1 (w.heap.size) 3 [.int .i64 1, .int .i64 0, .int .i64 2] := by rw [hW1]; exact Blk.new _ _ _
  have sW1 : W1.heap.size = w.heap.size + 1 := by rw [hW1]; simp
  rw [← hW1]
  clear hW1
  clear sW1
  replace hB := bthen hB kW1
  have v1 := BlkI.ints (n := 3) (l := [1, 0, 2]) iW1 rfl
  clear iW1 kW1
  refine (aw_a _ W1 v1).mono ?_
  rintro e W2 ⟨⟨ua, rfl, ha⟩, hl⟩
  replace hB := bthen hB hl
  replace v1 := v1.carry hl
  clear hl
  clear v1
  go_wp2_with fail
  obtain ⟨W3, hW3⟩ : ∃ v, v = World.alloc W2 (Obj.cells #[.int .i64 2, .int .i64 3, .int .i64 1] 3) := ⟨_, rfl⟩
  have kW3 : Below W2.heap.size W2 W3 := by rw [hW3]; exact below_new _ _
  have iW3 : Blk W3 (W2.heap.size) 3 [.int .i64 2, .int .i64 3, .int .i64 1] := by rw [hW3]; exact Blk.new _ _ _
  have sW3 : W3.heap.size = W2.heap.size + 1 := by rw [hW3]; simp
  rw [← hW3]
  clear hW3
  clear sW3
  replace hB := bthen hB kW3
  replace ha := ha.carry kW3
  have v1 := BlkI.ints (n := 3) (l := [2, 3, 1]) iW3 rfl
  clear iW3 kW3
  refine (aw_b _ W3 v1).mono ?_
  rintro e W4 ⟨⟨ub, rfl, hb⟩, hl⟩
  replace hB := bthen hB hl
  replace ha := ha.carry hl
  replace v1 := v1.carry hl
  clear hl
  clear v1
  go_wp2_with fail
  obtain ⟨W5, hW5⟩ : ∃ v, v = World.alloc W4 (Obj.cells #[.int .i64 1, .int .i64 0, .int .i64 2] 3) := ⟨_, rfl⟩
  have kW5 : Below W4.heap.size W4 W5 := by rw [hW5]; exact below_new _ _
  have iW5 : Blk W5 (W4.heap.size) 3 [.int .i64 1, .int .i64 0, .int .i64 2] := by rw [hW5]; exact Blk.new _ _ _
  have sW5 : W5.heap.size = W4.heap.size + 1 := by rw [hW5]; simp
  rw [← hW5]
  clear hW5
  clear sW5
  replace hB := bthen hB kW5
  replace ha := ha.carry kW5
  replace hb := hb.carry kW5
  have v1 := BlkI.ints (n := 3) (l := [1, 0, 2]) iW5 rfl
  clear iW5 kW5
  refine (aw_x _ W5 v1).mono ?_
  rintro e W6 ⟨rfl, hl⟩
  replace hB := bthen hB hl
  replace ha := ha.carry hl
  replace hb := hb.carry hl
  replace v1 := v1.carry hl
  clear hl
  clear v1
  go_wp2_with fail
  obtain ⟨W7, hW7⟩ : ∃ v, v = World.alloc W6 (Obj.cells #[.int .i64 2, .int .i64 3, .int .i64 1] 3) := ⟨_, rfl⟩
  have kW7 : Below W6.heap.size W6 W7 := by rw [hW7]; exact below_new _ _
  have iW7 : Blk W7 (W6.heap.size) 3 [.int .i64 2, .int .i64 3, .int .i64 1] := by rw [hW7]; exact Blk.new _ _ _
  have sW7 : W7.heap.size = W6.heap.size + 1 := by rw [hW7]; simp
  rw [← hW7]
  clear hW7
  clear sW7
  replace hB := bthen hB kW7
  replace ha := ha.carry kW7
  replace hb := hb.carry kW7
  have v1 := BlkI.ints (n := 3) (l := [2, 3, 1]) iW7 rfl
  clear iW7 kW7
  refine (aw_y _ W7 v1).mono ?_
  rintro e W8 ⟨rfl, hl⟩
  replace hB := bthen hB hl
  replace ha := ha.carry hl
  replace hb := hb.carry hl
  replace v1 := v1.carry hl
  clear hl
  clear v1
  go_wp2_with fail
  obtain ⟨W9, hW9⟩ : ∃ v, v = World.alloc W8 (Obj.cells #[.int .i64 1, .int .i64 0, .int .i64 2] 3) := ⟨_, rfl⟩
  have kW9 : Below W8.heap.size W8 W9 := by rw [hW9]; exact below_new _ _
  have iW9 : Blk W9 (W8.heap.size) 3 [.int .i64 1, .int .i64 0, .int .i64 2] := by rw [hW9]; exact Blk.new _ _ _
  have sW9 : W9.heap.size = W8.heap.size + 1 := by rw [hW9]; simp
  rw [← hW9]
  clear hW9
  clear sW9
  replace hB := bthen hB kW9
  replace ha := ha.carry kW9
  replace hb := hb.carry kW9
  have v1 := BlkI.ints (n := 3) (l := [1, 0, 2]) iW9 rfl
  clear iW9 kW9
  refine (aw_v _ W9 v1).mono ?_
  rintro e W10 ⟨rfl, hl⟩
  replace hB := bthen hB hl
  replace ha := ha.carry hl
  replace hb := hb.carry hl
  replace v1 := v1.carry hl
  clear hl
  clear v1
  go_wp2_with fail
  obtain ⟨W11, hW11⟩ : ∃ v, v = World.alloc W10 (Obj.cells #[.int .i64 (-1), .int .i64 0] 59) := ⟨_, rfl⟩
  have kW11 : Below W10.heap.size W10 W11 := by rw [hW11]; exact below_new _ _
  have iW11 : Blk W11 (W10.heap.size) 59 [.int .i64 (-1), .int .i64 0] := by rw [hW11]; exact Blk.new _ _ _
  have sW11 : W11.heap.size = W10.heap.size + 1 := by rw [hW11]; simp
  rw [← hW11]
  clear hW11
  clear sW11
  replace hB := bthen hB kW11
  replace ha := ha.carry kW11
  replace hb := hb.carry kW11
  generalize W10.heap.size = BG at iW11 ⊢
  have hg := iW11
  clear iW11
  refine (single_any 1 W11).mono ?_
  rintro e W12 ⟨⟨us, rfl, hs⟩, hl⟩
  replace hB := bthen hB hl
  replace ha := ha.carry hl
  replace hb := hb.carry hl
  replace hg := hg.carry hl
  clear hl
  go_wp2_with fail
  refine (aw_c us W12 hs).mono ?_
  rintro e W13 ⟨⟨uc, rfl, hc⟩, hl⟩
  replace hB := bthen hB hl
  replace ha := ha.carry hl
  replace hb := hb.carry hl
  replace hg := hg.carry hl
  replace hs := hs.carry hl
  clear hl
  clear hs
  go_wp2_with fail
  refine (single_any 1 W13).mono ?_
  rintro e W14 ⟨⟨us, rfl, hs⟩, hl⟩
  replace hB := bthen hB hl
  replace ha := ha.carry hl
  replace hb := hb.carry hl
  replace hg := hg.carry hl
  replace hc := hc.carry hl
  clear hl
  go_wp2_with fail
  refine (aw_r us W14 (hq.below hB hq.size) hs).mono ?_
  rintro e W15 ⟨rfl, hl⟩
  replace hB := bthen hB hl
  replace ha := ha.carry hl
  replace hb := hb.carry hl
  replace hg := hg.carry hl
  replace hc := hc.carry hl
  replace hs := hs.carry hl
  clear hl
  clear hs
  have hsx := store_cx
  go_wp2_with fail
  obtain ⟨W16, hW16⟩ : ∃ v, v = World.alloc W15 (Obj.cells #[.complex .f64 4611686018427387904 0, .complex .f64 0 4611686018427387904, .complex .f64 13835058055282163712 0, .complex .f64 0 13835058055282163712] 49) := ⟨_, rfl⟩
  have kW16 : Below W15.heap.size W15 W16 := by rw [hW16]; exact below_new _ _
  have iW16 : Blk W16 (W15.heap.size) 49 [.complex .f64 4611686018427387904 0, .complex .f64 0 4611686018427387904, .complex .f64 13835058055282163712 0, .complex .f64 0 13835058055282163712] := by rw [hW16]; exact Blk.new _ _ _
  have sW16 : W16.heap.size = W15.heap.size + 1 := by rw [hW16]; simp
  rw [← hW16]
  clear hW16
  clear sW16
  replace hB := bthen hB kW16
  replace ha := ha.carry kW16
  replace hb := hb.carry kW16
  replace hg := hg.carry kW16
  replace hc := hc.carry kW16
  generalize W15.heap.size = BR at iW16 ⊢
  have hr := iW16
  clear iW16
  refine (single_any 1 W16).mono ?_
  rintro e W17 ⟨⟨us, rfl, hs⟩, hl⟩
  replace hB := bthen hB hl
  replace ha := ha.carry hl
  replace hb := hb.carry hl
  replace hg := hg.carry hl
  replace hc := hc.carry hl
  replace hr := hr.carry hl
  clear hl
  go_wp2_with fail
  refine (aw_s us W17 hs).mono ?_
  rintro e W18 ⟨rfl, hl⟩
  replace hB := bthen hB hl
  replace ha := ha.carry hl
  replace hb := hb.carry hl
  replace hg := hg.carry hl
  replace hc := hc.carry hl
  replace hr := hr.carry hl
  replace hs := hs.carry hl
  clear hl
  clear hs
  go_wp2_with fail
  refine (rowsL_any ua _ W18 ha (by decide) (by decide)).mono ?_
  rintro e W19 ⟨⟨u1, rfl, h1⟩, hl⟩
  replace hB := bthen hB hl
  replace ha := ha.carry hl
  replace hb := hb.carry hl
  replace hg := hg.carry hl
  replace hc := hc.carry hl
  replace hr := hr.carry hl
  clear hl
  clear ha
  go_wp2_with fail
  obtain ⟨W20, hW20⟩ : ∃ v, v = World.alloc W19 (Obj.cells #[.int .i64 1, .int .i64 0, .int .i64 2] 3) := ⟨_, rfl⟩
  have kW20 : Below W19.heap.size W19 W20 := by rw [hW20]; exact below_new _ _
  have iW20 : Blk W20 (W19.heap.size) 3 [.int .i64 1, .int .i64 0, .int .i64 2] := by rw [hW20]; exact Blk.new _ _ _
  have sW20 : W20.heap.size = W19.heap.size + 1 := by rw [hW20]; simp
  rw [← hW20]
  clear hW20
  replace hB := bthen hB kW20
  replace hb := hb.carry kW20
  replace hg := hg.carry kW20
  replace hc := hc.carry kW20
  replace hr := hr.carry kW20
  replace h1 := h1.carry kW20
  have b1 := iW20
  clear iW20
  obtain ⟨W21, hW21⟩ : ∃ v, v = World.alloc W20 (Obj.cells #[.int .i64 0, .int .i64 3] 3) := ⟨_, rfl⟩
  have kW21 : Below W20.heap.size W20 W21 := by rw [hW21]; exact below_new _ _
  have iW21 : Blk W21 (W19.heap.size + 1) 3 [.int .i64 0, .int .i64 3] := by rw [hW21, ← sW20]; exact Blk.new _ _ _
  have sW21 : W21.heap.size = W19.heap.size + 1 + 1 := by rw [hW21]; simp [sW20]
  rw [← hW21]
  clear hW21
  replace hB := bthen hB kW21
  replace hb := hb.carry kW21
  replace hg := hg.carry kW21
  replace hc := hc.carry kW21
  replace hr := hr.carry kW21
  replace h1 := h1.carry kW21
  replace b1 := b1.carry kW21
  have b2 := iW21
  clear iW21
  obtain ⟨W22, hW22⟩ : ∃ v, v = World.alloc W21 (Obj.cells #[.slice (some ⟨W19.heap.size, 0, none⟩) 3 3, .slice (some ⟨W19.heap.size + 1, 0, none⟩) 2 2] 22) := ⟨_, rfl⟩
  have kW22 : Below W21.heap.size W21 W22 := by rw [hW22]; exact below_new _ _
  have iW22 : Blk W22 (W19.heap.size + 1 + 1) 22 [.slice (some ⟨W19.heap.size, 0, none⟩) 3 3, .slice (some ⟨W19.heap.size + 1, 0, none⟩) 2 2] := by rw [hW22, ← sW21]; exact Blk.new _ _ _
  have sW22 : W22.heap.size = W19.heap.size + 1 + 1 + 1 := by rw [hW22]; simp [sW21]
  rw [← hW22]
  clear hW22
  replace hB := bthen hB kW22
  replace hb := hb.carry kW22
  replace hg := hg.carry kW22
  replace hc := hc.carry kW22
  replace hr := hr.carry kW22
  replace h1 := h1.carry kW22
  replace b1 := b1.carry kW22
  replace b2 := b2.carry kW22
  have b3 := iW22
  clear iW22
  clear sW22
  clear sW21
  clear sW20
  replace b1 := BlkI.ints (n := 3) (l := [1, 0, 2]) b1 rfl
  replace b2 := BlkI.ints (n := 2) (l := [0, 3]) b2 rfl
  refine (sameRows u1 _ _ W22 h1 (RowsOf.lit2 b3 b1 b2) (by decide) (by decide)).mono ?_
  rintro e W23 ⟨rfl, hl⟩
  replace hB := bthen hB hl
  replace hb := hb.carry hl
  replace hg := hg.carry hl
  replace hc := hc.carry hl
  replace hr := hr.carry hl
  replace h1 := h1.carry hl
  replace b1 := b1.carry hl
  replace b2 := b2.carry hl
  replace b3 := b3.carry hl
  clear hl
  clear h1
  clear b1
  clear b2
  clear b3
  go_wp2_with fail
  refine (rowsL_any ub _ W23 hb (by decide) (by decide)).mono ?_
  rintro e W24 ⟨⟨u1, rfl, h1⟩, hl⟩
  replace hB := bthen hB hl
  replace hb := hb.carry hl
  replace hg := hg.carry hl
  replace hc := hc.carry hl
  replace hr := hr.carry hl
  clear hl
  clear hb
  go_wp2_with fail
  obtain ⟨W25, hW25⟩ : ∃ v, v = World.alloc W24 (Obj.cells #[.int .i64 2, .int .i64 3, .int .i64 1] 3) := ⟨_, rfl⟩
  have kW25 : Below W24.heap.size W24 W25 := by rw [hW25]; exact below_new _ _
  have iW25 : Blk W25 (W24.heap.size) 3 [.int .i64 2, .int .i64 3, .int .i64 1] := by rw [hW25]; exact Blk.new _ _ _
  have sW25 : W25.heap.size = W24.heap.size + 1 := by rw [hW25]; simp
  rw [← hW25]
  clear hW25
  replace hB := bthen hB kW25
  replace hg := hg.carry kW25
  replace hc := hc.carry kW25
  replace hr := hr.carry kW25
  replace h1 := h1.carry kW25
  have b1 := iW25
  clear iW25
  obtain ⟨W26, hW26⟩ : ∃ v, v = World.alloc W25 (Obj.cells #[.slice (some ⟨W24.heap.size, 0, none⟩) 3 3] 22) := ⟨_, rfl⟩
  have kW26 : Below W25.heap.size W25 W26 := by rw [hW26]; exact below_new _ _
  have iW26 : Blk W26 (W24.heap.size + 1) 22 [.slice (some ⟨W24.heap.size, 0, none⟩) 3 3] := by rw [hW26, ← sW25]; exact Blk.new _ _ _
  have sW26 : W26.heap.size = W24.heap.size + 1 + 1 := by rw [hW26]; simp [sW25]
  rw [← hW26]
  clear hW26
  replace hB := bthen hB kW26
  replace hg := hg.carry kW26
  replace hc := hc.carry kW26
  replace hr := hr.carry kW26
  replace h1 := h1.carry kW26
  replace b1 := b1.carry kW26
  have b3 := iW26
  clear iW26
  clear sW26
  clear sW25
  replace b1 := BlkI.ints (n := 3) (l := [2, 3, 1]) b1 rfl
  refine (sameRows u1 _ _ W26 h1 (RowsOf.lit1 b3 b1) (by decide) (by decide)).mono ?_
  rintro e W27 ⟨rfl, hl⟩
  replace hB := bthen hB hl
  replace hg := hg.carry hl
  replace hc := hc.carry hl
  replace hr := hr.carry hl
  replace h1 := h1.carry hl
  replace b1 := b1.carry hl
  replace b3 := b3.carry hl
  clear hl
  clear h1
  clear b1
  clear b3
  have g0 := hg.cell (j := 0) (v := .int .i64 (-1)) rfl
  have g1 := hg.cell (j := 1) (v := .int .i64 0) rfl
  have hng := neqG
  go_wp2_with fail
  clear g0 g1 hng
  obtain ⟨W28, hW28⟩ : ∃ v, v = World.alloc W27 (Obj.cells #[.int .i64 0, .int .i64 2] 3) := ⟨_, rfl⟩
  have kW28 : Below W27.heap.size W27 W28 := by rw [hW28]; exact below_new _ _
  have iW28 : Blk W28 (W27.heap.size) 3 [.int .i64 0, .int .i64 2] := by rw [hW28]; exact Blk.new _ _ _
  have sW28 : W28.heap.size = W27.heap.size + 1 := by rw [hW28]; simp
  rw [← hW28]
  clear hW28
  clear sW28
  replace hB := bthen hB kW28
  replace hg := hg.carry kW28
  replace hc := hc.carry kW28
  replace hr := hr.carry kW28
  have v1 := BlkI.ints (n := 2) (l := [0, 2]) iW28 rfl
  clear iW28 kW28
  refine (sameInts uc _ _ W28 hc v1 (by decide)).mono ?_
  rintro e W29 ⟨rfl, hl⟩
  replace hB := bthen hB hl
  replace hg := hg.carry hl
  replace hc := hc.carry hl
  replace hr := hr.carry hl
  replace v1 := v1.carry hl
  clear hl
  clear hc
  clear v1
  clear hg
  have r0 := hr.cell (j := 0) (v := .complex .f64 4611686018427387904 0) rfl
  have r1 := hr.cell (j := 1) (v := .complex .f64 0 4611686018427387904) rfl
  have r2 := hr.cell (j := 2) (v := .complex .f64 13835058055282163712 0) rfl
  have r3 := hr.cell (j := 3) (v := .complex .f64 0 13835058055282163712) rfl
  have hnr := neqR
  go_wp2_with fail
  clear r0 r1 r2 r3 hnr hsx
  clear hr
  refine (single_any 1 W29).mono ?_
  rintro e W30 ⟨⟨us, rfl, hs⟩, hl⟩
  replace hB := bthen hB hl
  clear hl
  go_wp2_with fail
  obtain ⟨W31, hW31⟩ : ∃ v, v = World.alloc W30 (Obj.cells #[.int .i64 1, .int .i64 4] 148) := ⟨_, rfl⟩
  have kW31 : Below W30.heap.size W30 W31 := by rw [hW31]; exact below_new _ _
  have iW31 : Blk W31 (W30.heap.size) 148 [.int .i64 1, .int .i64 4] := by rw [hW31]; exact Blk.new _ _ _
  have sW31 : W31.heap.size = W30.heap.size + 1 := by rw [hW31]; simp
  rw [← hW31]
  clear hW31
  replace hB := bthen hB kW31
  replace hs := hs.carry kW31
  have bx := iW31
  clear iW31
  clear sW31
  refine (aw_m us _ W31 hs (Pairs.lit1 bx)).mono ?_
  rintro e W32 ⟨⟨um, rfl, hm⟩, hl⟩
  replace hB := bthen hB hl
  replace hs := hs.carry hl
  replace bx := bx.carry hl
  clear hl
  clear hs
  clear bx
  go_wp2_with fail
  refine (single_any 1 W32).mono ?_
  rintro e W33 ⟨⟨us, rfl, hs⟩, hl⟩
  replace hB := bthen hB hl
  replace hm := hm.carry hl
  clear hl
  go_wp2_with fail
  obtain ⟨W34, hW34⟩ : ∃ v, v = World.alloc W33 (Obj.cells #[.int .i64 1, .int .i64 2] 148) := ⟨_, rfl⟩
  have kW34 : Below W33.heap.size W33 W34 := by rw [hW34]; exact below_new _ _
  have iW34 : Blk W34 (W33.heap.size) 148 [.int .i64 1, .int .i64 2] := by rw [hW34]; exact Blk.new _ _ _
  have sW34 : W34.heap.size = W33.heap.size + 1 := by rw [hW34]; simp
  rw [← hW34]
  clear hW34
  replace hB := bthen hB kW34
  replace hm := hm.carry kW34
  replace hs := hs.carry kW34
  have bx := iW34
  clear iW34
  clear sW34
  refine (aw_no us _ W34 hs (Pairs.lit1 bx)).mono ?_
  rintro e W35 ⟨⟨uno, rfl, hno⟩, hl⟩
  replace hB := bthen hB hl
  replace hm := hm.carry hl
  replace hs := hs.carry hl
  replace bx := bx.carry hl
  clear hl
  clear hno
  clear hs
  clear bx
  go_wp2_with fail
  obtain ⟨W36, hW36⟩ : ∃ v, v = World.alloc W35 (Obj.cells #[.int .i64 (-1), .int .i64 2] 3) := ⟨_, rfl⟩
  have kW36 : Below W35.heap.size W35 W36 := by rw [hW36]; exact below_new _ _
  have iW36 : Blk W36 (W35.heap.size) 3 [.int .i64 (-1), .int .i64 2] := by rw [hW36]; exact Blk.new _ _ _
  have sW36 : W36.heap.size = W35.heap.size + 1 := by rw [hW36]; simp
  rw [← hW36]
  clear hW36
  clear sW36
  replace hB := bthen hB kW36
  replace hm := hm.carry kW36
  have v1 := BlkI.ints (n := 2) (l := [-1, 2]) iW36 rfl
  clear iW36 kW36
  refine (aw_d _ W36 v1).mono ?_
  rintro e W37 ⟨⟨ud, rfl, hd⟩, hl⟩
  replace hB := bthen hB hl
  replace hm := hm.carry hl
  replace v1 := v1.carry hl
  clear hl
  clear v1
  go_wp2_with fail
  obtain ⟨W38, hW38⟩ : ∃ v, v = World.alloc W37 (Obj.cells #[.int .i64 (-1), .int .i64 2] 3) := ⟨_, rfl⟩
  have kW38 : Below W37.heap.size W37 W38 := by rw [hW38]; exact below_new _ _
  have iW38 : Blk W38 (W37.heap.size) 3 [.int .i64 (-1), .int .i64 2] := by rw [hW38]; exact Blk.new _ _ _
  have sW38 : W38.heap.size = W37.heap.size + 1 := by rw [hW38]; simp
  rw [← hW38]
  clear hW38
  clear sW38
  replace hB := bthen hB kW38
  replace hm := hm.carry kW38
  replace hd := hd.carry kW38
  have v1 := BlkI.ints (n := 2) (l := [-1, 2]) iW38 rfl
  clear iW38 kW38
  refine (aw_in _ W38 v1).mono ?_
  rintro e W39 ⟨rfl, hl⟩
  replace hB := bthen hB hl
  replace hm := hm.carry hl
  replace hd := hd.carry hl
  replace v1 := v1.carry hl
  clear hl
  clear v1
  go_wp2_with fail
  obtain ⟨W40, hW40⟩ : ∃ v, v = World.alloc W39 (Obj.cells #[.int .i64 (-1), .int .i64 2] 3) := ⟨_, rfl⟩
  have kW40 : Below W39.heap.size W39 W40 := by rw [hW40]; exact below_new _ _
  have iW40 : Blk W40 (W39.heap.size) 3 [.int .i64 (-1), .int .i64 2] := by rw [hW40]; exact Blk.new _ _ _
  have sW40 : W40.heap.size = W39.heap.size + 1 := by rw [hW40]; simp
  rw [← hW40]
  clear hW40
  clear sW40
  replace hB := bthen hB kW40
  replace hm := hm.carry kW40
  replace hd := hd.carry kW40
  have v1 := BlkI.ints (n := 2) (l := [-1, 2]) iW40 rfl
  clear iW40 kW40
  refine (aw_out _ W40 v1).mono ?_
  rintro e W41 ⟨rfl, hl⟩
  replace hB := bthen hB hl
  replace hm := hm.carry hl
  replace hd := hd.carry hl
  replace v1 := v1.carry hl
  clear hl
  clear v1
  go_wp2_with fail
  obtain ⟨W42, hW42⟩ : ∃ v, v = World.alloc W41 (Obj.cells #[.int .i64 (-1), .int .i64 2] 3) := ⟨_, rfl⟩
  have kW42 : Below W41.heap.size W41 W42 := by rw [hW42]; exact below_new _ _
  have iW42 : Blk W42 (W41.heap.size) 3 [.int .i64 (-1), .int .i64 2] := by rw [hW42]; exact Blk.new _ _ _
  have sW42 : W42.heap.size = W41.heap.size + 1 := by rw [hW42]; simp
  rw [← hW42]
  clear hW42
  replace hB := bthen hB kW42
  replace hm := hm.carry kW42
  replace hd := hd.carry kW42
  have b1 := iW42
  clear iW42
  obtain ⟨W43, hW43⟩ : ∃ v, v = World.alloc W42 (Obj.cells #[.int .i64 8] 3) := ⟨_, rfl⟩
  have kW43 : Below W42.heap.size W42 W43 := by rw [hW43]; exact below_new _ _
  have iW43 : Blk W43 (W41.heap.size + 1) 3 [.int .i64 8] := by rw [hW43, ← sW42]; exact Blk.new _ _ _
  have sW43 : W43.heap.size = W41.heap.size + 1 + 1 := by rw [hW43]; simp [sW42]
  rw [← hW43]
  clear hW43
  replace hB := bthen hB kW43
  replace hm := hm.carry kW43
  replace hd := hd.carry kW43
  replace b1 := b1.carry kW43
  have b2 := iW43
  clear iW43
  clear sW43
  clear sW42
  replace b1 := BlkI.ints (n := 2) (l := [-1, 2]) b1 rfl
  replace b2 := BlkI.ints (n := 1) (l := [8]) b2 rfl
  refine (aw_f _ _ W43 b1 b2).mono ?_
  rintro e W44 ⟨⟨uf, rfl, hf⟩, hl⟩
  replace hB := bthen hB hl
  replace hm := hm.carry hl
  replace hd := hd.carry hl
  replace b1 := b1.carry hl
  replace b2 := b2.carry hl
  clear hl
  clear b1
  clear b2
  go_wp2_with fail
  obtain ⟨W45, hW45⟩ : ∃ v, v = World.alloc W44 (Obj.cells #[.int .i64 0, .int .i64 0, .int .i64 3] 3) := ⟨_, rfl⟩
  have kW45 : Below W44.heap.size W44 W45 := by rw [hW45]; exact below_new _ _
  have iW45 : Blk W45 (W44.heap.size) 3 [.int .i64 0, .int .i64 0, .int .i64 3] := by rw [hW45]; exact Blk.new _ _ _
  have sW45 : W45.heap.size = W44.heap.size + 1 := by rw [hW45]; simp
  rw [← hW45]
  clear hW45
  replace hB := bthen hB kW45
  replace hm := hm.carry kW45
  replace hd := hd.carry kW45
  replace hf := hf.carry kW45
  have b1 := iW45
  clear iW45
  obtain ⟨W46, hW46⟩ : ∃ v, v = World.alloc W45 (Obj.cells #[.int .i64 5, .int .i64 7] 3) := ⟨_, rfl⟩
  have kW46 : Below W45.heap.size W45 W46 := by rw [hW46]; exact below_new _ _
  have iW46 : Blk W46 (W44.heap.size + 1) 3 [.int .i64 5, .int .i64 7] := by rw [hW46, ← sW45]; exact Blk.new _ _ _
  have sW46 : W46.heap.size = W44.heap.size + 1 + 1 := by rw [hW46]; simp [sW45]
  rw [← hW46]
  clear hW46
  replace hB := bthen hB kW46
  replace hm := hm.carry kW46
  replace hd := hd.carry kW46
  replace hf := hf.carry kW46
  replace b1 := b1.carry kW46
  have b2 := iW46
  clear iW46
  clear sW46
  clear sW45
  replace b1 := BlkI.ints (n := 3) (l := [0, 0, 3]) b1 rfl
  replace b2 := BlkI.ints (n := 2) (l := [5, 7]) b2 rfl
  refine (aw_g _ _ W46 b1 b2).mono ?_
  rintro e W47 ⟨⟨ug, rfl, hg⟩, hl⟩
  replace hB := bthen hB hl
  replace hm := hm.carry hl
  replace hd := hd.carry hl
  replace hf := hf.carry hl
  replace b1 := b1.carry hl
  replace b2 := b2.carry hl
  clear hl
  clear b1
  clear b2
  go_wp2_with fail
  obtain ⟨W48, hW48⟩ : ∃ v, v = World.alloc W47 (Obj.cells #[.int .i64 3] 3) := ⟨_, rfl⟩
  have kW48 : Below W47.heap.size W47 W48 := by rw [hW48]; exact below_new _ _
  have iW48 : Blk W48 (W47.heap.size) 3 [.int .i64 3] := by rw [hW48]; exact Blk.new _ _ _
  have sW48 : W48.heap.size = W47.heap.size + 1 := by rw [hW48]; simp
  rw [← hW48]
  clear hW48
  clear sW48
  replace hB := bthen hB kW48
  replace hm := hm.carry kW48
  replace hd := hd.carry kW48
  replace hf := hf.carry kW48
  replace hg := hg.carry kW48
  have v1 := BlkI.ints (n := 1) (l := [3]) iW48 rfl
  clear iW48 kW48
  refine (sameInts um _ _ W48 hm v1 (by decide)).mono ?_
  rintro e W49 ⟨rfl, hl⟩
  replace hB := bthen hB hl
  replace hm := hm.carry hl
  replace hd := hd.carry hl
  replace hf := hf.carry hl
  replace hg := hg.carry hl
  replace v1 := v1.carry hl
  clear hl
  clear hm
  clear v1
  go_wp2_with fail
  obtain ⟨W50, hW50⟩ : ∃ v, v = World.alloc W49 (Obj.cells #[.int .i64 (-1), .int .i64 1] 3) := ⟨_, rfl⟩
  have kW50 : Below W49.heap.size W49 W50 := by rw [hW50]; exact below_new _ _
  have iW50 : Blk W50 (W49.heap.size) 3 [.int .i64 (-1), .int .i64 1] := by rw [hW50]; exact Blk.new _ _ _
  have sW50 : W50.heap.size = W49.heap.size + 1 := by rw [hW50]; simp
  rw [← hW50]
  clear hW50
  clear sW50
  replace hB := bthen hB kW50
  replace hd := hd.carry kW50
  replace hf := hf.carry kW50
  replace hg := hg.carry kW50
  have v1 := BlkI.ints (n := 2) (l := [-1, 1]) iW50 rfl
  clear iW50 kW50
  refine (sameInts ud _ _ W50 hd v1 (by decide)).mono ?_
  rintro e W51 ⟨rfl, hl⟩
  replace hB := bthen hB hl
  replace hd := hd.carry hl
  replace hf := hf.carry hl
  replace hg := hg.carry hl
  replace v1 := v1.carry hl
  clear hl
  clear hd
  clear v1
  go_wp2_with fail
  obtain ⟨W52, hW52⟩ : ∃ v, v = World.alloc W51 (Obj.cells #[.int .i64 8, .int .i64 8, .int .i64 8, .int .i64 8] 3) := ⟨_, rfl⟩
  have kW52 : Below W51.heap.size W51 W52 := by rw [hW52]; exact below_new _ _
  have iW52 : Blk W52 (W51.heap.size) 3 [.int .i64 8, .int .i64 8, .int .i64 8, .int .i64 8] := by rw [hW52]; exact Blk.new _ _ _
  have sW52 : W52.heap.size = W51.heap.size + 1 := by rw [hW52]; simp
  rw [← hW52]
  clear hW52
  clear sW52
  replace hB := bthen hB kW52
  replace hf := hf.carry kW52
  replace hg := hg.carry kW52
  have v1 := BlkI.ints (n := 4) (l := [8, 8, 8, 8]) iW52 rfl
  clear iW52 kW52
  refine (sameInts uf _ _ W52 hf v1 (by decide)).mono ?_
  rintro e W53 ⟨rfl, hl⟩
  replace hB := bthen hB hl
  replace hf := hf.carry hl
  replace hg := hg.carry hl
  replace v1 := v1.carry hl
  clear hl
  clear hf
  clear v1
  go_wp2_with fail
  obtain ⟨W54, hW54⟩ : ∃ v, v = World.alloc W53 (Obj.cells #[.int .i64 5, .int .i64 21, .int .i64 0] 3) := ⟨_, rfl⟩
  have kW54 : Below W53.heap.size W53 W54 := by rw [hW54]; exact below_new _ _
  have iW54 : Blk W54 (W53.heap.size) 3 [.int .i64 5, .int .i64 21, .int .i64 0] := by rw [hW54]; exact Blk.new _ _ _
  have sW54 : W54.heap.size = W53.heap.size + 1 := by rw [hW54]; simp
  rw [← hW54]
  clear hW54
  clear sW54
  replace hB := bthen hB kW54
  replace hg := hg.carry kW54
  have v1 := BlkI.ints (n := 3) (l := [5, 21, 0]) iW54 rfl
  clear iW54 kW54
  refine (sameInts ug _ _ W54 hg v1 (by decide)).mono ?_
  rintro e W55 ⟨rfl, hl⟩
  replace hB := bthen hB hl
  replace hg := hg.carry hl
  replace v1 := v1.carry hl
  clear hl
  clear hg
  clear v1
  go_wp2_with fail
  refine (aw_ring W55).mono ?_
  rintro e W56 ⟨⟨ur, rfl, hr⟩, hl⟩
  replace hB := bthen hB hl
  clear hl
  go_wp2_with fail
  obtain ⟨W57, hW57⟩ : ∃ v, v = World.alloc W56 (Obj.cells #[.int .i64 1, .int .i64 2, .int .i64 2, .int .i64 2, .int .i64 3, .int .i64 0] 3) := ⟨_, rfl⟩
  have kW57 : Below W56.heap.size W56 W57 := by rw [hW57]; exact below_new _ _
  have iW57 : Blk W57 (W56.heap.size) 3 [.int .i64 1, .int .i64 2, .int .i64 2, .int .i64 2, .int .i64 3, .int .i64 0] := by rw [hW57]; exact Blk.new _ _ _
  have sW57 : W57.heap.size = W56.heap.size + 1 := by rw [hW57]; simp
  rw [← hW57]
  clear hW57
  clear sW57
  replace hB := bthen hB kW57
  replace hr := hr.carry kW57
  have v1 := BlkI.ints (n := 6) (l := [1, 2, 2, 2, 3, 0]) iW57 rfl
  clear iW57 kW57
  refine (aw_n _ W57 v1).mono ?_
  rintro e W58 ⟨rfl, hl⟩
  replace hB := bthen hB hl
  replace hr := hr.carry hl
  replace v1 := v1.carry hl
  clear hl
  clear v1
  go_wp2_with fail
  obtain ⟨W59, hW59⟩ : ∃ v, v = World.alloc W58 (Obj.cells #[.int .i64 1, .int .i64 2, .int .i64 2, .int .i64 2, .int .i64 3, .int .i64 0] 3) := ⟨_, rfl⟩
  have kW59 : Below W58.heap.size W58 W59 := by rw [hW59]; exact below_new _ _
  have iW59 : Blk W59 (W58.heap.size) 3 [.int .i64 1, .int .i64 2, .int .i64 2, .int .i64 2, .int .i64 3, .int .i64 0] := by rw [hW59]; exact Blk.new _ _ _
  have sW59 : W59.heap.size = W58.heap.size + 1 := by rw [hW59]; simp
  rw [← hW59]
  clear hW59
  clear sW59
  replace hB := bthen hB kW59
  replace hr := hr.carry kW59
  have v1 := BlkI.ints (n := 6) (l := [1, 2, 2, 2, 3, 0]) iW59 rfl
  clear iW59 kW59
  refine (aw_l _ W59 v1).mono ?_
  rintro e W60 ⟨⟨ul, rfl, hll⟩, hl⟩
  replace hB := bthen hB hl
  replace hr := hr.carry hl
  replace v1 := v1.carry hl
  clear hl
  clear v1
  go_wp2_with fail
  obtain ⟨W61, hW61⟩ : ∃ v, v = World.alloc W60 (Obj.cells #[.int .i64 1, .int .i64 2, .int .i64 2, .int .i64 2, .int .i64 3, .int .i64 0] 3) := ⟨_, rfl⟩
  have kW61 : Below W60.heap.size W60 W61 := by rw [hW61]; exact below_new _ _
  have iW61 : Blk W61 (W60.heap.size) 3 [.int .i64 1, .int .i64 2, .int .i64 2, .int .i64 2, .int .i64 3, .int .i64 0] := by rw [hW61]; exact Blk.new _ _ _
  have sW61 : W61.heap.size = W60.heap.size + 1 := by rw [hW61]; simp
  rw [← hW61]
  clear hW61
  replace hB := bthen hB kW61
  replace hr := hr.carry kW61
  replace hll := hll.carry kW61
  have b1 := iW61
  clear iW61
  obtain ⟨W62, hW62⟩ : ∃ v, v = World.alloc W61 (Obj.cells #[.int .i64 2, .int .i64 1, .int .i64 0, .int .i64 1, .int .i64 2, .int .i64 3] 3) := ⟨_, rfl⟩
  have kW62 : Below W61.heap.size W61 W62 := by rw [hW62]; exact below_new _ _
  have iW62 : Blk W62 (W60.heap.size + 1) 3 [.int .i64 2, .int .i64 1, .int .i64 0, .int .i64 1, .int .i64 2, .int .i64 3] := by rw [hW62, ← sW61]; exact Blk.new _ _ _
  have sW62 : W62.heap.size = W60.heap.size + 1 + 1 := by rw [hW62]; simp [sW61]
  rw [← hW62]
  clear hW62
  replace hB := bthen hB kW62
  replace hr := hr.carry kW62
  replace hll := hll.carry kW62
  replace b1 := b1.carry kW62
  have b2 := iW62
  clear iW62
  clear sW62
  clear sW61
  replace b1 := BlkI.ints (n := 6) (l := [1, 2, 2, 2, 3, 0]) b1 rfl
  replace b2 := BlkI.ints (n := 6) (l := [2, 1, 0, 1, 2, 3]) b2 rfl
  refine (aw_e19 _ _ W62 b1 b2).mono ?_
  rintro e W63 ⟨rfl, hl⟩
  replace hB := bthen hB hl
  replace hr := hr.carry hl
  replace hll := hll.carry hl
  replace b1 := b1.carry hl
  replace b2 := b2.carry hl
  clear hl
  clear b1
  clear b2
  go_wp2_with fail
  refine (single_any 1 W63).mono ?_
  rintro e W64 ⟨⟨us, rfl, hs⟩, hl⟩
  replace hB := bthen hB hl
  replace hr := hr.carry hl
  replace hll := hll.carry hl
  clear hl
  go_wp2_with fail
  refine (aw_t us W64 (hp.below hB) hs).mono ?_
  rintro e W65 ⟨rfl, hl⟩
  replace hB := bthen hB hl
  replace hr := hr.carry hl
  replace hll := hll.carry hl
  replace hs := hs.carry hl
  clear hl
  clear hs
  go_wp2_with fail
  obtain ⟨W66, hW66⟩ : ∃ v, v = World.alloc W65 (Obj.cells #[.int .i64 1, .int .i64 2, .int .i64 2, .int .i64 2, .int .i64 3, .int .i64 0] 3) := ⟨_, rfl⟩
  have kW66 : Below W65.heap.size W65 W66 := by rw [hW66]; exact below_new _ _
  have iW66 : Blk W66 (W65.heap.size) 3 [.int .i64 1, .int .i64 2, .int .i64 2, .int .i64 2, .int .i64 3, .int .i64 0] := by rw [hW66]; exact Blk.new _ _ _
  have sW66 : W66.heap.size = W65.heap.size + 1 := by rw [hW66]; simp
  rw [← hW66]
  clear hW66
  clear sW66
  replace hB := bthen hB kW66
  replace hr := hr.carry kW66
  replace hll := hll.carry kW66
  have v1 := BlkI.ints (n := 6) (l := [1, 2, 2, 2, 3, 0]) iW66 rfl
  clear iW66 kW66
  refine (sameInts ur _ _ W66 hr v1 (by decide)).mono ?_
  rintro e W67 ⟨rfl, hl⟩
  replace hB := bthen hB hl
  replace hr := hr.carry hl
  replace hll := hll.carry hl
  replace v1 := v1.carry hl
  clear hl
  clear hr
  clear v1
  go_wp2_with fail
  obtain ⟨W68, hW68⟩ : ∃ v, v = World.alloc W67 (Obj.cells #[.int .i64 0, .int .i64 1, .int .i64 2, .int .i64 3, .int .i64 4, .int .i64 5] 3) := ⟨_, rfl⟩
  have kW68 : Below W67.heap.size W67 W68 := by rw [hW68]; exact below_new _ _
  have iW68 : Blk W68 (W67.heap.size) 3 [.int .i64 0, .int .i64 1, .int .i64 2, .int .i64 3, .int .i64 4, .int .i64 5] := by rw [hW68]; exact Blk.new _ _ _
  have sW68 : W68.heap.size = W67.heap.size + 1 := by rw [hW68]; simp
  rw [← hW68]
  clear hW68
  clear sW68
  replace hB := bthen hB kW68
  replace hll := hll.carry kW68
  have v1 := BlkI.ints (n := 6) (l := [0, 1, 2, 3, 4, 5]) iW68 rfl
  clear iW68 kW68
  refine (sameInts ul _ _ W68 hll v1 (by decide)).mono ?_
  rintro e W69 ⟨rfl, hl⟩
  replace hB := bthen hB hl
  replace hll := hll.carry hl
  replace v1 := v1.carry hl
  clear hl
  clear hll
  clear v1
  go_wp2
  go_ret
  exact ⟨rfl, hB⟩

end Go.Proofs.YtnlmaildmeihgaaGreatDoor

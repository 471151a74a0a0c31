/- The law HarmonicDesigns: the walk. -/
import Derived.Test.YtlohcnecehlljaaGreatDoorHdA
import Derived.Test.YtlohcnecehlljaaGreatDoorHpO
namespace Go.Proofs.YtlohcnecehlljaaGreatDoor
set_option linter.unusedSimpArgs false
set_option linter.unusedVariables false
open Go.RowKit

theorem desR_two {m : Int} {lim : List Int} (h : desE m lim = 0) : desR m lim = desR2 m.toNat lim := by
  rw [desR, if_neg (by omega), desR2]
theorem desE_parts {m : Int} {lim : List Int} (h : desE m lim = 0) : (0 ≤ m ∧ m ≤ 12) ∧ limE lim = 0 := by
  unfold desE at h
  obtain ⟨h1, h⟩ := firstE_cons_ok h
  exact ⟨withinE_zero h1, (firstE_cons_ok h).1⟩
theorem excE_parts {l lim : List Int} (h : excE l lim = 0) : patE l = 0 ∧ limE lim = 0 := by
  unfold excE at h
  obtain ⟨h1, h⟩ := firstE_cons_ok h
  exact ⟨h1, (firstE_cons_ok h).1⟩

set_option maxRecDepth 100000 in
set_option maxHeartbeats 40000000 in
theorem des_law (l lim : List Int) (m : Int) (w : World) (hl : l.length = 12) (hlim : lim.length = 7) (hw : Powers w) (hp : Pows w) :
    Calls Tryz.prog 3 #[.agg (ia l), .agg (ia lim), .int .i64 m] w fun e w' => e = .returned (.bool true) ∧ Below w.heap.size w w' := by
  have HL := Lib.hid hl
  have HL7 := Lib.hid hlim
  have TAW := Lib.hid (fun W hP hQ => awake_any W hP hQ)
  have RG := Lib.hid (fun W => CheckRange_any m 5 12 W)
  have HW := Lib.hid hw
  have HP := Lib.hid hp
  by_cases hmost : withinE m 5 12 = 0
  · generalize withinE m 5 12 = em at RG hmost
    subst hmost
    clear hl hlim hw hp
    go_enter Tryz.func3, Tryz.ntmps3
    go_upto_region 1 with fail
    obtain ⟨W1, hW1⟩ : ∃ v, v = World.alloc w (Obj.cells (ia l) 22) := ⟨_, rfl⟩
    have kW1 : Below w.heap.size w W1 := by rw [hW1]; exact below_new _ _
    have iW1 : BlkI W1 (w.heap.size) 22 l := by rw [hW1]; exact BlkI.new _ _ _
    have sW1 : W1.heap.size = w.heap.size + 1 := by rw [hW1]; simp
    rw [← hW1]
    clear hW1
    obtain ⟨W2, hW2⟩ : ∃ v, v = World.alloc W1 (Obj.cells (ia lim) 23) := ⟨_, rfl⟩
    have kW2 : Below W1.heap.size W1 W2 := by rw [hW2]; exact below_new _ _
    have iW2 : BlkI W2 (w.heap.size + 1) 23 lim := by rw [hW2, ← sW1]; exact BlkI.new _ _ _
    have sW2 : W2.heap.size = w.heap.size + 1 + 1 := by rw [hW2]; simp [sW1]
    rw [← hW2]
    clear hW2
    have hB := bthen kW1 kW2
    clear iW1 iW2 kW1 kW2
    go_wp2_with fail
    refine (RG.out W2).mono ?_
    rintro e W3 ⟨rfl, rfl⟩
    go_wp2_with fail
    refine (TAW.out W2 (HW.out.carry hB) (HP.out.carry hB)).mono ?_
    rintro e W4 ⟨rfl, hb⟩
    go_wp2_with fail
    go_ret
    exact ⟨rfl, bthen hB hb⟩
  · have hz : (withinE m 5 12 == 0) = false := by rw [beq_eq_false_iff_ne]; exact hmost
    generalize withinE m 5 12 = em at RG hz
    obtain ⟨a, hA⟩ : ∃ a, a = l[0]?.getD 0 := ⟨_, rfl⟩
    obtain ⟨b, hBv⟩ : ∃ a, a = l[1]?.getD 0 := ⟨_, rfl⟩
    obtain ⟨c, hC⟩ : ∃ a, a = l[2]?.getD 0 := ⟨_, rfl⟩
    have TX := Lib.hid (fun W hW => ExcessH_any l lim W hl hlim hW (fun h => smallP_all l lim (patE_all (excE_parts h).1) (limE_all (excE_parts h).2)))
    have TQ := Lib.hid (fun W => QuarterH_any a b c W)
    have TD := Lib.hid (fun W hW => Design_any m lim W hlim hW (fun h => desSmall_all m.toNat lim (by have := (desE_parts h).1; omega) (desE_parts h).2))
    have R0 := Lib.hid (fun W => CheckPatternR_any l W hl)
    have R1 := Lib.hid (fun W => CheckLimitsR_any lim W hlim)
    have R2 := Lib.hid (fun W => CheckLevelsR_any a b c W)
    have R3 := Lib.hid (fun W => CheckRange_any m 0 12 W)
    have F1 := Lib.hid (fun (u : Value) (W : World) (h : Ints W u [patE l, limE lim]) => firstL_any u _ W (by simp) h)
    rw [show firstE [patE l, limE lim] = excE l lim from rfl] at F1
    have F2 := Lib.hid (fun (u : Value) (W : World) (h : Ints W u [withinE m 0 12, limE lim]) => firstL_any u _ W (by simp) h)
    rw [show firstE [withinE m 0 12, limE lim] = desE m lim from rfl] at F2
    have R4 := Lib.hid (fun (he : excE l lim = 0) W => ExcessR_any l lim W hl hlim (excE_parts he).1 (excE_parts he).2)
    have R5 := Lib.hid (fun W => QuarterR_any a b c W)
    have R6 := Lib.hid (fun (he : desE m lim = 0) W => by
      have := DesignR_any m.toNat lim W (by have := (desE_parts he).1; omega) hlim (desE_parts he).2
      rw [← desR_two he, Int.toNat_of_nonneg (desE_parts he).1.1] at this
      exact this)
    obtain ⟨LX, hLX⟩ : ∃ L, L = lsOr (excE l lim) (excL l lim) := ⟨_, rfl⟩
    have HX0 := Lib.hid (fun (h : excE l lim = 0) => show LX = excL l lim by rw [hLX, lsOr, if_pos h])
    have HX1 := Lib.hid (fun (h : excE l lim ≠ 0) => show LX = [] by rw [hLX, lsOr, if_neg h])
    have hxl : LX.length ≤ 1000000000 := by
      rw [hLX, lsOr]
      split
      · exact Nat.le_trans (chosenL_le _ 2 5) (by omega)
      · simp
    rw [← hLX] at TX
    obtain ⟨QR, hQR⟩ : ∃ L, L = quaR a b c := ⟨_, rfl⟩
    have HQ0 := Lib.hid (fun (h : levE a b c = 0) => show QR = qOf a b c by rw [hQR, quaR, arOr, if_pos h])
    have HQ1 := Lib.hid (fun (h : levE a b c ≠ 0) => show QR = List.replicate 12 0 by rw [hQR, quaR, arOr, if_neg h]; rfl)
    have hQl : QR.length = 12 := by
      rw [hQR, quaR, arOr]; split
      · rfl
      · rw [List.length_replicate]; rfl
    rw [← hQR] at TQ
    obtain ⟨⟨dt, de⟩, hDR⟩ : ∃ L, L = desR m lim := ⟨_, rfl⟩
    have hd1 : desE m lim ≠ 0 → dt = (0, 0, 0) ∧ de = desE m lim := fun h => by
      have := hDR
      rw [desR, if_pos h] at this
      exact Prod.mk.inj this
    have HD1 := Lib.hid hd1
    rw [← hDR] at TD R6
    obtain ⟨DL, hDL⟩ : ∃ L, L = triL dt := ⟨_, rfl⟩
    have hDl : DL.length = 3 := by rw [hDL]; rfl
    have HDL := Lib.hid hDL
    simp only at TD R6
    rw [← hDL] at TD R6
    have heqQ := fun W => eqInts 22 12 Tryz.undA12 QR QR hQl hQl W
    have heqD := fun W => eqInts 26 3 Tryz.undA3 DL DL hDl hDl W
    simp only [beq_self_eq_true] at heqQ heqD
    have HEQ := Lib.hid heqQ
    have HED := Lib.hid heqD
    have HXL := Lib.hid hxl
    have HQL := Lib.hid hQl
    have HDLL := Lib.hid hDl
    have HAB := Lib.hid (And.intro hA (And.intro hBv hC))
    clear hmost hLX hxl hQR hDR hd1 hDL heqQ heqD hQl hDl hA hBv hC
    generalize excL l lim = XL at R4 HX0
    generalize qOf a b c = QO at R5 HQ0
    generalize excE l lim = one at TX F1 R4 HX0 HX1
    generalize levE a b c = two at TQ R2 HQ0 HQ1
    generalize desE m lim = three at F2 R6 HD1
    generalize patE l = e1 at R0 F1
    generalize limE lim = e2 at R1 F1 F2
    generalize withinE m 0 12 = e3 at R3 F2
    go_enter Tryz.func3, Tryz.ntmps3
    go_upto_region 1 with fail
    obtain ⟨W1, hW1⟩ : ∃ v, v = World.alloc w (Obj.cells (ia l) 22) := ⟨_, rfl⟩
    have kW1 : Below w.heap.size w W1 := by rw [hW1]; exact below_new _ _
    have iW1 : BlkI W1 (w.heap.size) 22 l := by rw [hW1]; exact BlkI.new _ _ _
    have sW1 : W1.heap.size = w.heap.size + 1 := by rw [hW1]; simp
    rw [← hW1]
    clear hW1
    obtain ⟨W2, hW2⟩ : ∃ v, v = World.alloc W1 (Obj.cells (ia lim) 23) := ⟨_, rfl⟩
    have kW2 : Below W1.heap.size W1 W2 := by rw [hW2]; exact below_new _ _
    have iW2 : BlkI W2 (w.heap.size + 1) 23 lim := by rw [hW2, ← sW1]; exact BlkI.new _ _ _
    have sW2 : W2.heap.size = w.heap.size + 1 + 1 := by rw [hW2]; simp [sW1]
    rw [← hW2]
    clear hW2
    have i3 := iW1.carry kW2
    have i4 : BlkI W2 (w.heap.size + 1) 23 lim := iW2
    have hB := bthen kW1 kW2
    clear iW1 iW2 kW1 kW2 sW1 sW2 hl hlim hw hp
    obtain ⟨G4, hG4⟩ : ∃ G, G = w.heap.size + 1 := ⟨_, rfl⟩
    obtain ⟨G3, hG3⟩ : ∃ G, G = w.heap.size := ⟨_, rfl⟩
    rw [← hG4] at i4 ⊢
    rw [← hG3] at i3 ⊢
    clear hG3 hG4
    go_wp2_with fail
    refine (RG.out W2).mono ?_
    rintro e W3 ⟨rfl, rfl⟩
    have c0 : W2.cell? ⟨G3, 0, none⟩ = some (.int .i64 a) := by rw [HAB.out.1]; exact BlkI.cell (l := l) i3 (j := 0) (by rw [HL.out]; omega)
    have c1 : W2.cell? ⟨G3, 1, none⟩ = some (.int .i64 b) := by rw [HAB.out.2.1]; exact BlkI.cell (l := l) i3 (j := 1) (by rw [HL.out]; omega)
    have c2 : W2.cell? ⟨G3, 2, none⟩ = some (.int .i64 c) := by rw [HAB.out.2.2]; exact BlkI.cell (l := l) i3 (j := 2) (by rw [HL.out]; omega)
    go_upto_region 4 with (refine wpList_storeA rfl _ _ _ rfl W2.heap.size [a, b, c] (List.replicate 3 0) rfl rfl (BlkI.new W2 26 (List.replicate 3 0)) rfl Tryz.infoA3 ?_)
    obtain ⟨V1, hV1⟩ : ∃ v, v = World.setRow (World.alloc W2 (Obj.cells #[.int .i64 0, .int .i64 0, .int .i64 0] 26)) W2.heap.size (ia ([a, b, c])) := ⟨_, rfl⟩
    have kV1 : Below W2.heap.size W2 V1 := by rw [hV1]; exact zrow_below _ _ _ _
    have iV1 : BlkI V1 W2.heap.size 26 ([a, b, c]) := by rw [hV1]; exact zrow_blk W2 _ (List.replicate 3 0) _
    rw [← hV1]
    clear hV1
    replace i3 := i3.carry kV1
    replace i4 := i4.carry kV1
    replace hB := bthen hB kV1
    have i7 := iV1
    obtain ⟨G7, hG⟩ : ∃ G, G = W2.heap.size := ⟨_, rfl⟩
    rw [← hG] at i7 ⊢
    clear kV1 iV1 hG c0 c1 c2
    have hld := load12 HL.out i3
    have hld2 := load7 HL7.out i4
    go_wp2_with (first | refine wpList_load rfl _ _ rfl hld ?_ | refine wpList_load rfl _ _ rfl hld2 ?_)
    refine (TX.out V1 (HW.out.carry hB)).mono ?_
    rintro e V2 ⟨⟨u8, rfl, hu8⟩, hb⟩
    clear hld hld2 TX
    replace i3 := i3.carry hb
    replace i4 := i4.carry hb
    replace i7 := i7.carry hb
    replace hB := bthen hB hb
    clear hb
    have hld := load3 (l := [a, b, c]) rfl i7
    go_wp2_with (refine wpList_load rfl _ _ rfl hld ?_)
    refine (TQ.out V2).mono ?_
    rintro e V3 ⟨rfl, hb⟩
    clear hld TQ
    replace i3 := i3.carry hb
    replace i4 := i4.carry hb
    replace i7 := i7.carry hb
    replace hu8 := hu8.carry hb
    replace hB := bthen hB hb
    clear hb
    go_upto_region 6 with (refine wpList_storeA rfl _ _ _ rfl V3.heap.size QR (List.replicate 12 0) rfl rfl (BlkI.new V3 22 (List.replicate 12 0)) (by rw [HQL.out]; rfl) (by rw [HQL.out]; exact Tryz.infoA12) ?_)
    obtain ⟨V4, hV4⟩ : ∃ v, v = World.setRow (World.alloc V3 (Obj.cells #[.int .i64 0, .int .i64 0, .int .i64 0, .int .i64 0, .int .i64 0, .int .i64 0, .int .i64 0, .int .i64 0, .int .i64 0, .int .i64 0, .int .i64 0, .int .i64 0] 22)) V3.heap.size (ia (QR)) := ⟨_, rfl⟩
    have kV4 : Below V3.heap.size V3 V4 := by rw [hV4]; exact zrow_below _ _ _ _
    have iV4 : BlkI V4 V3.heap.size 22 (QR) := by rw [hV4]; exact zrow_blk V3 _ (List.replicate 12 0) _
    rw [← hV4]
    clear hV4
    replace i3 := i3.carry kV4
    replace i4 := i4.carry kV4
    replace i7 := i7.carry kV4
    replace hu8 := hu8.carry kV4
    replace hB := bthen hB kV4
    have i10 := iV4
    obtain ⟨G10, hG⟩ : ∃ G, G = V3.heap.size := ⟨_, rfl⟩
    rw [← hG] at i10 ⊢
    clear kV4 iV4 hG
    have hld2 := load7 HL7.out i4
    go_wp2_with (refine wpList_load rfl _ _ rfl hld2 ?_)
    refine (TD.out V4 (HW.out.carry hB)).mono ?_
    rintro e V5 ⟨rfl, hb⟩
    clear hld2 TD
    replace i3 := i3.carry hb
    replace i4 := i4.carry hb
    replace i7 := i7.carry hb
    replace i10 := i10.carry hb
    replace hu8 := hu8.carry hb
    replace hB := bthen hB hb
    clear hb
    go_upto_region 7 with (refine wpList_storeA rfl _ _ _ rfl V5.heap.size DL (List.replicate 3 0) rfl rfl (BlkI.new V5 26 (List.replicate 3 0)) (by rw [HDLL.out]; rfl) (by rw [HDLL.out]; exact Tryz.infoA3) ?_)
    obtain ⟨V6, hV6⟩ : ∃ v, v = World.setRow (World.alloc V5 (Obj.cells #[.int .i64 0, .int .i64 0, .int .i64 0] 26)) V5.heap.size (ia (DL)) := ⟨_, rfl⟩
    have kV6 : Below V5.heap.size V5 V6 := by rw [hV6]; exact zrow_below _ _ _ _
    have iV6 : BlkI V6 V5.heap.size 26 (DL) := by rw [hV6]; exact zrow_blk V5 _ (List.replicate 3 0) _
    rw [← hV6]
    clear hV6
    replace i3 := i3.carry kV6
    replace i4 := i4.carry kV6
    replace i7 := i7.carry kV6
    replace i10 := i10.carry kV6
    replace hu8 := hu8.carry kV6
    replace hB := bthen hB kV6
    have i12 := iV6
    obtain ⟨G12, hG⟩ : ∃ G, G = V5.heap.size := ⟨_, rfl⟩
    rw [← hG] at i12 ⊢
    clear kV6 iV6 hG
    have HI := Lib.hid (And.intro i3 (And.intro i4 (And.intro i7 (And.intro i10 (And.intro i12 hu8)))))
    have HB := Lib.hid hB
    have hR := Below.refl V6.heap.size V6
    clear i10 i12 hu8 hB
    refine wp_region_E 99 (by kernel_rfl) ?_
    obtain ⟨wz, hwz⟩ : ∃ v, v = V6.drew := ⟨_, rfl⟩
    rw [← hwz]
    have hlz : Below V6.heap.size V6 wz := by rw [hwz]; exact (Below.refl _ _).drew
    have hbz := bthen hR hlz
    have i3 := i3.carry hlz
    have i4 := i4.carry hlz
    have i7 := i7.carry hlz
    clear hwz hlz
    refine wpAnyE_take (i := 0) (oi := { dst := some 48, op := Op.load 22 (Operand.tmp 3), type := 22, pos := "law.go:188", after := #[], guard := none }) (v := ?_) rfl (by kernel_rfl) (by kernel_rfl) (by kernel_rfl) (by kernel_rfl) (fun _ _ _ h => h) (Or.inl ⟨by rfl, ?_⟩) ?_
    rotate_left
    · (intro w hE; (try dsimp only); refine (exec_load rfl (load12 HL.out (i3.carry hE))).trans ?_); (try with_reducible rfl)
    try simp only [Act.put, List.setIfInBounds_toArray, List.set_cons_zero, List.set_cons_succ]
    refine wpAnyE_take (i := 2) (oi := { dst := some 50, op := Op.load 23 (Operand.tmp 4), type := 23, pos := "law.go:188", after := #[], guard := none }) (v := ?_) rfl (by kernel_rfl) (by kernel_rfl) (by kernel_rfl) (by kernel_rfl) (fun _ _ _ h => h) (Or.inl ⟨by rfl, ?_⟩) ?_
    rotate_left
    · (intro w hE; (try dsimp only); refine (exec_load rfl (load7 HL7.out (i4.carry hE))).trans ?_); (try with_reducible rfl)
    try simp only [Act.put, List.setIfInBounds_toArray, List.set_cons_zero, List.set_cons_succ]
    refine wpAnyE_take (i := 6) (oi := { dst := some 54, op := Op.load 26 (Operand.tmp 7), type := 26, pos := "law.go:188", after := #[], guard := none }) (v := ?_) rfl (by kernel_rfl) (by kernel_rfl) (by kernel_rfl) (by kernel_rfl) (fun _ _ _ h => h) (Or.inl ⟨by rfl, ?_⟩) ?_
    rotate_left
    · (intro w hE; (try dsimp only); refine (exec_load rfl (load3 (l := [a, b, c]) rfl (i7.carry hE))).trans ?_); (try with_reducible rfl)
    try simp only [Act.put, List.setIfInBounds_toArray, List.set_cons_zero, List.set_cons_succ]
    refine wpAnyE_take (i := 8) (oi := { dst := some 56, op := Op.move (Operand.tmp 2), type := 3, pos := "law.go:188", after := #[], guard := none }) (v := ?_) rfl (by kernel_rfl) (by kernel_rfl) (by kernel_rfl) (by kernel_rfl) (fun _ _ _ h => h) (Or.inl ⟨by rfl, ?_⟩) ?_
    rotate_left
    · (intro w hE; (try dsimp only); go_simp); (try with_reducible rfl)
    try simp only [Act.put, List.setIfInBounds_toArray, List.set_cons_zero, List.set_cons_succ]
    refine wpAnyE_take (i := 10) (oi := { dst := some 58, op := Op.load 23 (Operand.tmp 4), type := 23, pos := "law.go:188", after := #[], guard := none }) (v := ?_) rfl (by kernel_rfl) (by kernel_rfl) (by kernel_rfl) (by kernel_rfl) (fun _ _ _ h => h) (Or.inl ⟨by rfl, ?_⟩) ?_
    rotate_left
    · (intro w hE; (try dsimp only); refine (exec_load rfl (load7 HL7.out (i4.carry hE))).trans ?_); (try with_reducible rfl)
    try simp only [Act.put, List.setIfInBounds_toArray, List.set_cons_zero, List.set_cons_succ]
    refine wpAnyE_call (i := 1) (oi := { dst := some 49, op := Op.call { callee := Callee.value (Operand.func 14), args := #[Operand.tmp 48], argTypes := #[22] }, type := 3, pos := "law.go:188", after := #[{ on := 0, ground := Ground.data }], guard := none }) (fun w hE => R0.out w) rfl (by kernel_rfl) (by kernel_rfl) (by kernel_rfl) (by kernel_rfl) (fun _ _ _ h => h) (by rfl) (fun w hE => by (try dsimp only); go_simp) ?_
    try simp only [Act.put, List.setIfInBounds_toArray, List.set_cons_zero, List.set_cons_succ]
    refine wpAnyE_call (i := 3) (oi := { dst := some 51, op := Op.call { callee := Callee.value (Operand.func 15), args := #[Operand.tmp 50], argTypes := #[23] }, type := 3, pos := "law.go:188", after := #[{ on := 2, ground := Ground.data }, { on := 1, ground := Ground.chain }], guard := none }) (fun w hE => R1.out w) rfl (by kernel_rfl) (by kernel_rfl) (by kernel_rfl) (by kernel_rfl) (fun _ _ _ h => h) (by rfl) (fun w hE => by (try dsimp only); go_simp) ?_
    try simp only [Act.put, List.setIfInBounds_toArray, List.set_cons_zero, List.set_cons_succ]
    refine wpAnyE_one (i := 4) (o := { dst := some 52, op := Op.buildSlice 27 2 #[(0, Operand.tmp 49), (1, Operand.tmp 51)], type := 27, pos := "law.go:188", after := #[{ on := 1, ground := Ground.data }, { on := 3, ground := Ground.data }], guard := none }) (by kernel_rfl) rfl (fun wy1 hE K hK => ?_)
    have i3 := i3.carry hE
    have i4 := i4.carry hE
    have i7 := i7.carry hE
    have hbz1 := bthen hbz hE
    clear hE
    go_simp
    obtain ⟨wx1, hwz⟩ : ∃ v, v = wy1.alloc (Obj.cells #[.int .i64 e1, .int .i64 e2] 3) := ⟨_, rfl⟩
    rw [← hwz]
    have hl : Below wy1.heap.size wy1 wx1 := by rw [hwz]; exact below_new _ _
    have hcz1 := bthen hbz1 hl
    have iN : BlkI wx1 wy1.heap.size 3 [e1, e2] := by rw [hwz]; exact Blk.new _ _ _
    generalize wy1.heap.size = G1 at iN ⊢
    have i3 := i3.carry hl
    have i4 := i4.carry hl
    have i7 := i7.carry hl
    clear hwz
    refine hK _ _ (fun _ => hl) ?_
    clear hK K hl
    try simp only [Act.put, List.setIfInBounds_toArray, List.set_cons_zero, List.set_cons_succ]
    refine wpAnyE_call (i := 5) (oi := { dst := some 53, op := Op.call { callee := Callee.value (Operand.func 13), args := #[Operand.tmp 52], argTypes := #[27] }, type := 3, pos := "law.go:188", after := #[{ on := 4, ground := Ground.data }, { on := 3, ground := Ground.chain }], guard := none }) (fun w hE => ofPure (F1.out _ w (BlkI.ints (l := [e1, e2]) (iN.carry hE) rfl))) rfl (by kernel_rfl) (by kernel_rfl) (by kernel_rfl) (by kernel_rfl) (fun _ _ _ h => h) (by rfl) (fun w hE => by (try dsimp only); go_simp) ?_
    try simp only [Act.put, List.setIfInBounds_toArray, List.set_cons_zero, List.set_cons_succ]
    refine wpAnyE_call (i := 7) (oi := { dst := some 55, op := Op.call { callee := Callee.value (Operand.func 16), args := #[Operand.tmp 54], argTypes := #[26] }, type := 3, pos := "law.go:188", after := #[{ on := 6, ground := Ground.data }, { on := 5, ground := Ground.chain }], guard := none }) (fun w hE => R2.out w) rfl (by kernel_rfl) (by kernel_rfl) (by kernel_rfl) (by kernel_rfl) (fun _ _ _ h => h) (by rfl) (fun w hE => by (try dsimp only); go_simp) ?_
    try simp only [Act.put, List.setIfInBounds_toArray, List.set_cons_zero, List.set_cons_succ]
    refine wpAnyE_call (i := 9) (oi := { dst := some 57, op := Op.call { callee := Callee.value (Operand.func 8), args := #[Operand.tmp 56, Operand.const (Value.int IntKind.i64 0), Operand.const (Value.int IntKind.i64 12)], argTypes := #[3, 3, 3] }, type := 3, pos := "law.go:188", after := #[{ on := 8, ground := Ground.data }, { on := 7, ground := Ground.chain }], guard := none }) (fun w hE => ofPure (R3.out w)) rfl (by kernel_rfl) (by kernel_rfl) (by kernel_rfl) (by kernel_rfl) (fun _ _ _ h => h) (by rfl) (fun w hE => by (try dsimp only); go_simp) ?_
    try simp only [Act.put, List.setIfInBounds_toArray, List.set_cons_zero, List.set_cons_succ]
    refine wpAnyE_call (i := 11) (oi := { dst := some 59, op := Op.call { callee := Callee.value (Operand.func 15), args := #[Operand.tmp 58], argTypes := #[23] }, type := 3, pos := "law.go:188", after := #[{ on := 10, ground := Ground.data }, { on := 9, ground := Ground.chain }], guard := none }) (fun w hE => R1.out w) rfl (by kernel_rfl) (by kernel_rfl) (by kernel_rfl) (by kernel_rfl) (fun _ _ _ h => h) (by rfl) (fun w hE => by (try dsimp only); go_simp) ?_
    try simp only [Act.put, List.setIfInBounds_toArray, List.set_cons_zero, List.set_cons_succ]
    refine wpAnyE_one (i := 12) (o := { dst := some 60, op := Op.buildSlice 27 2 #[(0, Operand.tmp 57), (1, Operand.tmp 59)], type := 27, pos := "law.go:188", after := #[{ on := 9, ground := Ground.data }, { on := 11, ground := Ground.data }], guard := none }) (by kernel_rfl) rfl (fun wy2 hE K hK => ?_)
    have i3 := i3.carry hE
    have i4 := i4.carry hE
    have i7 := i7.carry hE
    have iN := iN.carry hE
    have hbz2 := bthen hcz1 hE
    clear hE
    go_simp
    obtain ⟨wx2, hwz⟩ : ∃ v, v = wy2.alloc (Obj.cells #[.int .i64 e3, .int .i64 e2] 3) := ⟨_, rfl⟩
    rw [← hwz]
    have hl : Below wy2.heap.size wy2 wx2 := by rw [hwz]; exact below_new _ _
    have hcz2 := bthen hbz2 hl
    have iM : BlkI wx2 wy2.heap.size 3 [e3, e2] := by rw [hwz]; exact Blk.new _ _ _
    generalize wy2.heap.size = G2 at iM ⊢
    have i3 := i3.carry hl
    have i4 := i4.carry hl
    have i7 := i7.carry hl
    have iN := iN.carry hl
    clear hwz
    refine hK _ _ (fun _ => hl) ?_
    clear hK K hl
    try simp only [Act.put, List.setIfInBounds_toArray, List.set_cons_zero, List.set_cons_succ]
    refine wpAnyE_call (i := 13) (oi := { dst := some 61, op := Op.call { callee := Callee.value (Operand.func 13), args := #[Operand.tmp 60], argTypes := #[27] }, type := 3, pos := "law.go:188", after := #[{ on := 12, ground := Ground.data }, { on := 11, ground := Ground.chain }], guard := none }) (fun w hE => ofPure (F2.out _ w (BlkI.ints (l := [e3, e2]) (iM.carry hE) rfl))) rfl (by kernel_rfl) (by kernel_rfl) (by kernel_rfl) (by kernel_rfl) (fun _ _ _ h => h) (by rfl) (fun w hE => by (try dsimp only); go_simp) ?_
    try simp only [Act.put, List.setIfInBounds_toArray, List.set_cons_zero, List.set_cons_succ]
    refine wpAnyE_take (i := 14) (oi := { dst := some 14, op := Op.assign (Operand.tmp 53), type := 3, pos := "law.go:188", after := #[{ on := 5, ground := Ground.data }, { on := 13, ground := Ground.chain }, { on := 0, ground := Ground.phase }, { on := 1, ground := Ground.phase }, { on := 2, ground := Ground.phase }, { on := 3, ground := Ground.phase }, { on := 4, ground := Ground.phase }, { on := 5, ground := Ground.phase }, { on := 6, ground := Ground.textOnly Departure.lateStores }, { on := 7, ground := Ground.textOnly Departure.lateStoresUnsure }, { on := 8, ground := Ground.textOnly Departure.lateStores }, { on := 9, ground := Ground.textOnly Departure.lateStoresUnsure }, { on := 10, ground := Ground.textOnly Departure.lateStores }, { on := 11, ground := Ground.textOnly Departure.lateStoresUnsure }, { on := 12, ground := Ground.textOnly Departure.lateStores }, { on := 13, ground := Ground.textOnly Departure.lateStoresUnsure }], guard := none }) (v := ?_) rfl (by kernel_rfl) (by kernel_rfl) (by kernel_rfl) (by kernel_rfl) (fun _ _ _ h => h) (Or.inl ⟨by rfl, ?_⟩) ?_
    rotate_left
    · (intro w hE; (try dsimp only); go_simp); (try with_reducible rfl)
    try simp only [Act.put, List.setIfInBounds_toArray, List.set_cons_zero, List.set_cons_succ]
    refine wpAnyE_take (i := 15) (oi := { dst := some 15, op := Op.assign (Operand.tmp 55), type := 3, pos := "law.go:188", after := #[{ on := 7, ground := Ground.data }, { on := 14, ground := Ground.chain }, { on := 0, ground := Ground.phase }, { on := 1, ground := Ground.phase }, { on := 2, ground := Ground.phase }, { on := 3, ground := Ground.phase }, { on := 4, ground := Ground.phase }, { on := 5, ground := Ground.phase }, { on := 6, ground := Ground.phase }, { on := 7, ground := Ground.phase }, { on := 8, ground := Ground.textOnly Departure.lateStores }, { on := 9, ground := Ground.textOnly Departure.lateStoresUnsure }, { on := 10, ground := Ground.textOnly Departure.lateStores }, { on := 11, ground := Ground.textOnly Departure.lateStoresUnsure }, { on := 12, ground := Ground.textOnly Departure.lateStores }, { on := 13, ground := Ground.textOnly Departure.lateStoresUnsure }, { on := 14, ground := Ground.phase }], guard := none }) (v := ?_) rfl (by kernel_rfl) (by kernel_rfl) (by kernel_rfl) (by kernel_rfl) (fun _ _ _ h => h) (Or.inl ⟨by rfl, ?_⟩) ?_
    rotate_left
    · (intro w hE; (try dsimp only); go_simp); (try with_reducible rfl)
    try simp only [Act.put, List.setIfInBounds_toArray, List.set_cons_zero, List.set_cons_succ]
    refine wpAnyE_take (i := 16) (oi := { dst := some 16, op := Op.assign (Operand.tmp 61), type := 3, pos := "law.go:188", after := #[{ on := 13, ground := Ground.data }, { on := 15, ground := Ground.chain }, { on := 0, ground := Ground.phase }, { on := 1, ground := Ground.phase }, { on := 2, ground := Ground.phase }, { on := 3, ground := Ground.phase }, { on := 4, ground := Ground.phase }, { on := 5, ground := Ground.phase }, { on := 6, ground := Ground.phase }, { on := 7, ground := Ground.phase }, { on := 8, ground := Ground.phase }, { on := 9, ground := Ground.phase }, { on := 10, ground := Ground.phase }, { on := 11, ground := Ground.phase }, { on := 12, ground := Ground.phase }, { on := 13, ground := Ground.phase }, { on := 14, ground := Ground.phase }, { on := 15, ground := Ground.phase }], guard := none }) (v := ?_) rfl (by kernel_rfl) (by kernel_rfl) (by kernel_rfl) (by kernel_rfl) (fun _ _ _ h => h) (Or.inl ⟨by rfl, ?_⟩) ?_
    rotate_left
    · (intro w hE; (try dsimp only); go_simp); (try with_reducible rfl)
    try simp only [Act.put, List.setIfInBounds_toArray, List.set_cons_zero, List.set_cons_succ]
    refine wpAnyE_done (by kernel_rfl) (fun wy3 hE => ?_) _
    have hbz3 := bthen hcz2 hE
    have i3 := i3.carry hE
    have i4 := i4.carry hE
    have i7 := i7.carry hE
    have iN := iN.carry hE
    have iM := iM.carry hE
    clear hE
    have hR2 := hbz3
    obtain ⟨Wc, hWc⟩ : ∃ v, v = wy3 := ⟨_, rfl⟩
    rw [← hWc] at hR2 ⊢
    clear hWc
    obtain ⟨i3, i4, i7, i10, i12, hu8⟩ := HI.out
    have HI2 := Lib.hid (And.intro (i3.carry hR2) (And.intro (i4.carry hR2) (And.intro (i7.carry hR2) (And.intro (i10.carry hR2) (And.intro (i12.carry hR2) (hu8.carry hR2))))))
    have HB2 := Lib.hid (bthen HB.out hR2)
    clear i3 i4 i7 i10 i12 hu8 hR2 R0 R1 R2 R3 F1 F2 HI HB
    go_upto_if 63 with fail
    obtain ⟨Wd, hWd⟩ : ∃ v, v = World.alloc Wc (Obj.cells #[.int .i64 0, .int .i64 0, .int .i64 0, .int .i64 0, .int .i64 0, .int .i64 0, .int .i64 0, .int .i64 0, .int .i64 0, .int .i64 0, .int .i64 0, .int .i64 0] 22) := ⟨_, rfl⟩
    have kWd : Below Wc.heap.size Wc Wd := by rw [hWd]; exact below_new _ _
    have iWd : BlkI Wd (Wc.heap.size) 22 (List.replicate 12 0) := by rw [hWd]; exact BlkI.new Wc 22 (List.replicate 12 0)
    have sWd : Wd.heap.size = Wc.heap.size + 1 := by rw [hWd]; simp
    rw [← hWd]
    clear hWd
    obtain ⟨We, hWe⟩ : ∃ v, v = World.alloc Wd (Obj.cells #[.int .i64 0, .int .i64 0, .int .i64 0] 26) := ⟨_, rfl⟩
    have kWe : Below Wd.heap.size Wd We := by rw [hWe]; exact below_new _ _
    have iWe : BlkI We (Wc.heap.size + 1) 26 (List.replicate 3 0) := by rw [hWe, ← sWd]; exact BlkI.new Wd 26 (List.replicate 3 0)
    have sWe : We.heap.size = Wc.heap.size + 1 + 1 := by rw [hWe]; simp [sWd]
    rw [← hWe]
    clear hWe
    have i18 : BlkI We Wc.heap.size 22 (List.replicate 12 0) := iWd.carry kWe
    have i19 : BlkI We (Wc.heap.size + 1) 26 (List.replicate 3 0) := iWe
    have hA := bthen kWd kWe
    obtain ⟨G18, hG18⟩ : ∃ G, G = Wc.heap.size := ⟨_, rfl⟩
    obtain ⟨G19, hG19⟩ : ∃ G, G = Wc.heap.size + 1 := ⟨_, rfl⟩
    rw [← hG19] at i19 ⊢
    rw [← hG18] at i18 ⊢
    have h18 : Wc.heap.size ≤ G18 := by omega
    have h19 : Wc.heap.size ≤ G19 := by omega
    have hne : G19 ≠ G18 := by omega
    have b18 : G18 < G19 + 1 := by omega
    have HF := Lib.hid (And.intro h18 (And.intro h19 (And.intro hne b18)))
    clear iWd iWe kWd kWe sWd sWe hG18 hG19 h18 h19 hne b18
    go_cut [17] from 64 to 67 (fun u17 wn => wn.ownsRow (G19 + 1) 3 1 u17 LX.length (LX.map (Value.int .i64)) ∧ BlkI wn G18 22 (List.replicate 12 0) ∧ BlkI wn G19 26 (List.replicate 3 0) ∧ Below Wc.heap.size Wc wn)
    case first =>
      by_cases h1 : one = 0
      · subst h1
        have hLe := HX0.out rfl
        have R4b := Lib.hid (R4.out (by trivial))
        rw [← hLe] at R4b
        have HLE := Lib.hid hLe
        clear hLe R4
        have hld := load12 HL.out (HI2.out.1.carry hA)
        have hld2 := load7 HL7.out (HI2.out.2.1.carry hA)
        have hsz := Blk.lt i19
        go_wp2_with (first | refine wpList_load rfl _ _ rfl hld ?_ | refine wpList_load rfl _ _ rfl hld2 ?_)
        refine (R4b.out We).mono ?_
        rintro e Wf ⟨⟨u, rfl, hu⟩, hb⟩
        clear hld hld2
        go_wp2_with fail
        go_meet
        exact ⟨own_mono hu (by omega), i18.carry hb, i19.carry hb, bthen hA hb⟩
      · have z : (one == 0) = false := by rw [beq_eq_false_iff_ne]; exact h1
        have HLE := Lib.hid (HX1.out h1)
        clear h1
        go_wp2_with fail
        go_meet
        exact ⟨by rw [HLE.out]; exact World.ownsRow_nil _ _ _ _, i18, i19, hA⟩
    case rest =>
      clear hA i18 i19
      obtain ⟨h17, i18, i19, hA⟩ := hcut
      go_upto_if 68 with fail
      go_cut [] from 69 to 71 (fun wn => wn.ownsRow (G19 + 1) 3 1 u17 LX.length (LX.map (Value.int .i64)) ∧ BlkI wn G18 22 QR ∧ BlkI wn G19 26 (List.replicate 3 0) ∧ Below Wc.heap.size Wc wn)
      case first =>
        by_cases h1 : two = 0
        · subst h1
          have hQe := HQ0.out rfl
          rw [← hQe] at R5
          have HQE := Lib.hid hQe
          clear hQe
          have hld := load3 (l := [a, b, c]) rfl (HI2.out.2.2.1.carry hA)
          go_wp2_with (refine wpList_load rfl _ _ rfl hld ?_)
          refine (R5.out wc).mono ?_
          rintro e Wf ⟨rfl, hb⟩
          clear hld
          replace h17 := own_below h17 hb
          replace i18 := i18.carry hb
          replace i19 := i19.carry hb
          replace hA := bthen hA hb
          clear hb
          go_wp2_with (refine wpList_storeA rfl _ _ _ rfl G18 QR (List.replicate 12 0) rfl rfl i18 (by rw [HQL.out]; rfl) (by rw [HQL.out]; exact Tryz.infoA12) ?_)
          obtain ⟨h18, h19, hne, b18⟩ := HF.out
          go_meet
          exact ⟨own_setRow h17 b18, BlkI.setRowA i18 QR, BlkI.setRowO i19 hne _, below_rowA hA h18 _⟩
        · have z : (two == 0) = false := by rw [beq_eq_false_iff_ne]; exact h1
          have hQe := HQ1.out h1
          rw [← hQe] at i18
          clear h1 hQe
          go_wp2_with fail
          go_meet
          exact ⟨h17, i18, i19, hA⟩
      case rest =>
        clear hA i18 i19 h17
        obtain ⟨h17, i18, i19, hA⟩ := hcut
        go_upto_if 72 with fail
        go_cut [16] from 73 to 79 (fun u16 wn => u16 = .int .i64 de ∧ wn.ownsRow (G19 + 1) 3 1 u17 LX.length (LX.map (Value.int .i64)) ∧ BlkI wn G18 22 QR ∧ BlkI wn G19 26 DL ∧ Below Wc.heap.size Wc wn)
        case first =>
          by_cases h1 : three = 0
          · subst h1
            have R6b := Lib.hid (R6.out (by trivial))
            clear R6
            have hld2 := load7 HL7.out (HI2.out.2.1.carry hA)
            go_wp2_with (refine wpList_load rfl _ _ rfl hld2 ?_)
            refine (R6b.out wc).mono ?_
            rintro e Wf ⟨rfl, hb⟩
            clear hld2
            replace h17 := own_below h17 hb
            replace i18 := i18.carry hb
            replace i19 := i19.carry hb
            replace hA := bthen hA hb
            clear hb
            go_wp2_with (refine wpList_storeA rfl _ _ _ rfl G19 DL (List.replicate 3 0) rfl rfl i19 (by rw [HDLL.out]; rfl) (by rw [HDLL.out]; exact Tryz.infoA3) ?_)
            obtain ⟨h18, h19, hne, b18⟩ := HF.out
            go_meet
            exact ⟨rfl, own_setRow h17 (by omega), BlkI.setRowO i18 (Ne.symm hne) _, BlkI.setRowA i19 DL, below_rowA hA h19 _⟩
          · have z : (three == 0) = false := by rw [beq_eq_false_iff_ne]; exact h1
            obtain ⟨hd1, hd2⟩ := HD1.out h1
            have hDe : List.replicate 3 0 = DL := by rw [HDL.out, hd1]; rfl
            rw [hDe] at i19
            have HD2 := Lib.hid hd2
            clear h1 hDe hd1 hd2
            go_wp2_with fail
            go_meet
            exact ⟨by rw [HD2.out], h17, i18, i19, hA⟩
        case rest =>
          clear hA i18 i19 h17
          obtain ⟨rfl, h17, i18, i19, hA⟩ := hcut
          have SI := Lib.hid (fun va vb (l : List Int) W ha hb (hl : l.length ≤ 1000000000) => by
            have := SameInts_any va vb l l W ha hb hl
            rw [decide_eq_true rfl] at this
            exact this)
          have TS := Lib.hid (SI.out u8 u17 LX wc (HI2.out.2.2.2.2.2.carry hA) (Ints.of_own h17 rfl) HXL.out)
          clear SI h17
          go_wp2_with fail
          refine TS.out.mono ?_
          rintro e Wf ⟨rfl, hb⟩
          replace i18 := i18.carry hb
          replace i19 := i19.carry hb
          replace hA := bthen hA hb
          clear hb TS
          have hld10 := load12 HQL.out (HI2.out.2.2.2.1.carry hA)
          have hld18 := load12 HQL.out i18
          have hld12 := load3 HDLL.out (HI2.out.2.2.2.2.1.carry hA)
          have hld19 := load3 HDLL.out i19
          have heqQ := HEQ.out
          have heqD := HED.out
          go_wp2_with (first | refine wpList_loadG (by rfl) _ _ rfl hld10 ?_ | refine wpList_loadG (by rfl) _ _ rfl hld18 ?_ | refine wpList_loadG (by rfl) _ _ rfl hld12 ?_ | refine wpList_loadG (by rfl) _ _ rfl hld19 ?_)
          refine (TAW.out Wf (HW.out.carry (bthen HB2.out hA)) (HP.out.carry (bthen HB2.out hA))).mono ?_
          rintro e Wg ⟨rfl, hb⟩
          go_wp2_with fail
          go_ret
          exact ⟨rfl, bthen (bthen HB2.out hA) hb⟩
end Go.Proofs.YtlohcnecehlljaaGreatDoor

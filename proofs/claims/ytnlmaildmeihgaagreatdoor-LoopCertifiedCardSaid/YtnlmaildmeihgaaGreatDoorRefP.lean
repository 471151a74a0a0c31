/- The reference's Certify. -/
import Derived.Test.YtnlmaildmeihgaaGreatDoorRefQ
namespace Go.Proofs.YtnlmaildmeihgaaGreatDoor
open Go.RowKit

set_option maxRecDepth 100000 in
set_option maxHeartbeats 8000000 in
theorem CertifyR_any (va vb vc vd vx : Value) (a b c d : List Int) (bx : List (Int × Int)) (w : World) (ha : Ints w va a) (hb : Ints w vb b) (hc : Ints w vc c) (hd : Ints w vd d) (hx : Pairs w vx bx) (he : checkBoxE a b c d bx = 0) :
    Calls Tryz.prog 39 #[.agg #[va, vb, vc, vd], vx] w fun e w' => (∃ u, e = .returned (.tuple #[u, .bool (certW b c d bx).isSome]) ∧ Ints w' u ((certW b c d bx).getD [])) ∧ Below w.heap.size w w' := by
  have HA := Lib.hid ha
  have HB := Lib.hid hb
  have HC := Lib.hid hc
  have HD := Lib.hid hd
  have HX := Lib.hid hx
  obtain ⟨xa, ca, rfl, _⟩ := id ha
  obtain ⟨xb, cb, rfl, _⟩ := id hb
  obtain ⟨xc, cc, rfl, _⟩ := id hc
  obtain ⟨xd, cd, rfl, _⟩ := id hd
  obtain ⟨xx, cx, rfl, _⟩ := id hx
  clear ha hb hc hd hx
  obtain ⟨k1, k2, _⟩ := checkBoxE_ok he
  obtain ⟨k3, HL, k4⟩ := box1E_ok k1
  obtain ⟨⟨a1, a5⟩, ⟨bb1, b5⟩, ⟨c1, c5⟩, ⟨d1, d5⟩⟩ := checkLoopE_len k3
  have hbd := intervalsE_ok k4
  have hmc := many_all hbd (by omega)
  have hml : (membersW bx).length ≤ 1000 := by
    unfold box2E at k2
    obtain ⟨_, k2⟩ := firstE_cons_ok k2
    obtain ⟨k2, _⟩ := firstE_cons_ok k2
    have k2 := whenE_ok k2 (by decide)
    rw [hmc] at k2
    simp only [decide_eq_false_iff_not] at k2
    omega
  have HBD := Lib.hid hbd
  have hx5 : bx.length ≤ 5 := by omega
  have hx1 : 1 ≤ bx.length := by omega
  clear k1 k2 k3 k4 he hbd hmc HL
  go_enter Tryz.func39, Tryz.ntmps39
  go_upto_region 1 with fail
  obtain ⟨W1, hW1⟩ : ∃ v, v = World.alloc w (Obj.cells #[.slice xa a.length ca, .slice xb b.length cb, .slice xc c.length cc, .slice xd d.length cd] 40) := ⟨_, rfl⟩
  have kW1 : Below w.heap.size w W1 := by rw [hW1]; exact below_new _ _
  have iW1 : Blk W1 (w.heap.size) 40 [.slice xa a.length ca, .slice xb b.length cb, .slice xc c.length cc, .slice xd d.length cd] := by rw [hW1]; exact Blk.new _ _ _
  have sW1 : W1.heap.size = w.heap.size + 1 := by rw [hW1]; simp
  rw [← hW1]
  clear hW1
  clear sW1
  have hB := kW1
  have iB := iW1
  clear kW1 iW1
  go_wp2_with fail
  refine (MembersR_any _ bx W1 (HX.out.carry hB) (fun x hx => by have := HBD.out x hx; omega) (by omega) hml).mono ?_
  rintro e w5 ⟨⟨u5, rfl, hu5⟩, hl⟩
  replace hB := bthen hB hl
  replace iB := iB.carry hl
  clear hl HBD
  have hmem : ∀ m ∈ membersW bx, m.length = bx.length := fun m h => membersW_length h
  have hcw : certW b c d bx = (membersW bx).find? (fun p => !stableB (closedW p b c d)) := rfl
  generalize membersW bx = L at hml hu5 hmem hcw
  have HCW := Lib.hid hcw
  clear hcw
  obtain ⟨ua, hua, hla, hra⟩ := hu5
  obtain ⟨xu, cu, rfl, _, hca⟩ := hua
  rw [hla] at hca ⊢
  have HLA := Lib.hid hla
  have HCA := Lib.hid hca
  have HRA := Lib.hid hra
  clear hla hca hra
  obtain ⟨ws, rfl⟩ : ∃ v, v = w5 := ⟨_, rfl⟩
  go_wp2_with fail
  go_loopw [7] (fun v7 wr => ∃ i : Nat, i ≤ L.length ∧ v7 = .int .i64 i ∧ (∀ m ∈ L.take i, stableB (closedW m b c d) = true) ∧ Below ws.heap.size ws wr) (fun v7 _ => L.length - (intOf v7).toNat)
  case atStart => exact ⟨0, Nat.zero_le _, rfl, fun m h => by simp at h, Below.refl _ _⟩
  case round =>
    obtain ⟨i, hi, rfl, hno, hbr⟩ := hrel
    have HNO := Lib.hid hno
    clear hno
    by_cases hlt : i < L.length
    · obtain ⟨m, hmk⟩ : ∃ m, L[i]? = some m := ⟨_, List.getElem?_eq_getElem hlt⟩
      have HM1 := Lib.hid (hmem m (List.mem_of_getElem? hmk))
      obtain ⟨ux, hux⟩ : ∃ y, ua[i]? = some y := ⟨_, List.getElem?_eq_getElem (by rw [HLA.out]; exact hlt)⟩
      obtain ⟨ba, oa, hax, hda⟩ := HCA.out (by omega)
      cases hax
      have cux := hda i ux hux
      have ix := HRA.out i ux m hux hmk
      obtain ⟨pa, pc, rfl, _⟩ := id ix
      have HIX := Lib.hid ix
      have HMK := Lib.hid hmk
      clear hda hux ix hmk
      have e0 := iB.cell (j := 0) (v := .slice xa a.length ca) rfl
      have e1 := iB.cell (j := 1) (v := .slice xb b.length cb) rfl
      have e2 := iB.cell (j := 2) (v := .slice xc c.length cc) rfl
      have e3 := iB.cell (j := 3) (v := .slice xd d.length cd) rfl
      have hcl : (closedW m b c d).length ≤ 100000 := by have := closedW_length m b c d; have := HM1.out; omega
      by_cases hs : stableB (closedW m b c d) = true
      · have TS := Lib.hid (fun u W (h : Ints W u (closedW m b c d)) => StableR_any u _ W h (by omega))
        rw [hs] at TS
        have HNO2 := Lib.hid (show ∀ y ∈ L.take (i + 1), stableB (closedW y b c d) = true from fun y hy => by
          rw [take_snoc HMK.out] at hy
          rcases List.mem_append.1 hy with h | h
          · exact HNO.out y h
          · obtain rfl := List.mem_singleton.1 h
            exact hs)
        clear hs
        go_wp2_with fail
        refine wp_region_held_drew (S := (fun w' => w'.cell? ⟨w.heap.size, 0, none⟩ = some (.slice xa a.length ca) ∧ w'.cell? ⟨w.heap.size, 1, none⟩ = some (.slice xb b.length cb) ∧ w'.cell? ⟨w.heap.size, 2, none⟩ = some (.slice xc c.length cc) ∧ w'.cell? ⟨w.heap.size, 3, none⟩ = some (.slice xd d.length cd) ∧ w'.cell? ⟨ba, oa + i, none⟩ = some (.slice pa m.length pc))) (by kernel_rfl) ⟨cellb e0 hbr.drew, cellb e1 hbr.drew, cellb e2 hbr.drew, cellb e3 hbr.drew, cellb cux hbr.drew⟩ (fun hHeld0 => ?_)
        obtain ⟨wzd, hwz⟩ : ∃ v, v = wr.drew := ⟨_, rfl⟩
        rw [← hwz] at hHeld0 ⊢
        have hbzd : Below ws.heap.size ws wzd := by rw [hwz]; exact hbr.drew
        have hlzd : Below wr.heap.size wr wzd := by rw [hwz]; exact (Below.refl _ _).drew
        clear hwz hlzd
        refine wpAnyH_take (i := 0) (oi := { dst := some 16, op := Op.load 40 (Operand.tmp 2), type := 40, pos := "ref.go:347", after := #[], guard := none }) (v := ?_) rfl (by kernel_rfl) (by kernel_rfl) (by kernel_rfl) (fun _ _ _ h => h) (Or.inl ⟨by rfl, ?_⟩) (by assumption) ?_
        rotate_left
        · (intro w hSw; (try dsimp only at hSw); go_simp); (try with_reducible rfl)
        try simp only [Act.put, List.setIfInBounds_toArray, List.set_cons_zero, List.set_cons_succ]
        refine wpAnyH_take (i := 1) (oi := { dst := some 17, op := Op.move (Operand.tmp 6), type := 104, pos := "ref.go:347", after := #[], guard := none }) (v := ?_) rfl (by kernel_rfl) (by kernel_rfl) (by kernel_rfl) (fun _ _ _ h => h) (Or.inl ⟨by rfl, ?_⟩) (by assumption) ?_
        rotate_left
        · (intro w hSw; (try dsimp only at hSw); go_simp); (try with_reducible rfl)
        try simp only [Act.put, List.setIfInBounds_toArray, List.set_cons_zero, List.set_cons_succ]
        refine wpAnyH_take (i := 2) (oi := { dst := some 18, op := Op.move (Operand.tmp 7), type := 3, pos := "ref.go:347", after := #[], guard := none }) (v := ?_) rfl (by kernel_rfl) (by kernel_rfl) (by kernel_rfl) (fun _ _ _ h => h) (Or.inl ⟨by rfl, ?_⟩) (by assumption) ?_
        rotate_left
        · (intro w hSw; (try dsimp only at hSw); go_simp); (try with_reducible rfl)
        try simp only [Act.put, List.setIfInBounds_toArray, List.set_cons_zero, List.set_cons_succ]
        refine wpAnyH_take (i := 3) (oi := { dst := some 19, op := Op.indexAddr 104 (Operand.tmp 17) (Operand.tmp 18), type := 0, pos := "ref.go:347", after := #[{ on := 1, ground := Ground.data }, { on := 2, ground := Ground.data }], guard := none }) (v := ?_) rfl (by kernel_rfl) (by kernel_rfl) (by kernel_rfl) (fun _ _ _ h => h) (Or.inl ⟨by rfl, ?_⟩) (by assumption) ?_
        rotate_left
        · (intro w hSw; (try dsimp only at hSw); go_simp); (try with_reducible rfl)
        try simp only [Act.put, List.setIfInBounds_toArray, List.set_cons_zero, List.set_cons_succ]
        refine wpAnyH_take (i := 4) (oi := { dst := some 20, op := Op.load 22 (Operand.tmp 19), type := 22, pos := "ref.go:347", after := #[{ on := 3, ground := Ground.data }], guard := none }) (v := ?_) rfl (by kernel_rfl) (by kernel_rfl) (by kernel_rfl) (fun _ _ _ h => h) (Or.inl ⟨by rfl, ?_⟩) (by assumption) ?_
        rotate_left
        · (intro w hSw; (try dsimp only at hSw); go_simp); (try with_reducible rfl)
        try simp only [Act.put, List.setIfInBounds_toArray, List.set_cons_zero, List.set_cons_succ]
        refine wpAnyH_ready (rs := [5]) (by kernel_rfl) (by simp) ?_
        refine (AllReadyH.cons (o := { dst := some 21, op := Op.call { callee := Callee.value (Operand.func 32), args := #[Operand.tmp 16, Operand.tmp 20], argTypes := #[40, 22] }, type := 22, pos := "ref.go:347", after := #[{ on := 0, ground := Ground.data }, { on := 4, ground := Ground.data }], guard := none }) rfl (fun K hK => ?_) AllReadyH.nil)
        go_simp
        refine (ClosedR_any _ _ _ _ _ a b c d m wzd (HA.out.carry (bthen hB hbzd)) (HB.out.carry (bthen hB hbzd)) (HC.out.carry (bthen hB hbzd)) (HD.out.carry (bthen hB hbzd)) (HIX.out.carry hbzd) bb1 c1 d1 (by have := HM1.out; omega) (by omega) (by omega) (by omega) (by have := HM1.out; omega)).mono ?_
        rintro e wz5 ⟨⟨u9, rfl, hu9⟩, hl⟩
        (try go_wp2_with fail)
        have hbz5 := bthen hbzd hl
        clear hl
        refine hK.out _ _ ⟨cellb e0 hbz5, cellb e1 hbz5, cellb e2 hbz5, cellb e3 hbz5, cellb cux hbz5⟩ (fun hHeld1 => ?_)
        clear hK K hHeld0
        try simp only [Act.put, List.setIfInBounds_toArray, List.set_cons_zero, List.set_cons_succ]
        refine wpAnyH_ready (rs := [6]) (by kernel_rfl) (by simp) ?_
        refine (AllReadyH.cons (o := { dst := some 22, op := Op.call { callee := Callee.value (Operand.func 78), args := #[Operand.tmp 21], argTypes := #[22] }, type := 4, pos := "ref.go:347", after := #[{ on := 5, ground := Ground.data }, { on := 5, ground := Ground.chain }], guard := none }) rfl (fun K hK => ?_) AllReadyH.nil)
        go_simp
        refine (TS.out u9 wz5 hu9).mono ?_
        rintro e wz6 ⟨rfl, hl⟩
        (try go_wp2_with fail)
        have hbz6 := bthen hbz5 hl
        have hu9 := hu9.carry hl
        clear hl
        refine hK.out _ _ ⟨cellb e0 hbz6, cellb e1 hbz6, cellb e2 hbz6, cellb e3 hbz6, cellb cux hbz6⟩ (fun hHeld2 => ?_)
        clear hK K hHeld1
        try simp only [Act.put, List.setIfInBounds_toArray, List.set_cons_zero, List.set_cons_succ]
        refine wpAnyH_take (i := 7) (oi := { dst := some 23, op := Op.unOp UnOp.not 4 (Operand.tmp 22), type := 4, pos := "ref.go:347", after := #[{ on := 6, ground := Ground.data }], guard := none }) (v := ?_) rfl (by kernel_rfl) (by kernel_rfl) (by kernel_rfl) (fun _ _ _ h => h) (Or.inl ⟨by rfl, ?_⟩) (by assumption) ?_
        rotate_left
        · (intro w hSw; (try dsimp only at hSw); go_simp); (try with_reducible rfl)
        try simp only [Act.put, List.setIfInBounds_toArray, List.set_cons_zero, List.set_cons_succ]
        refine wpAnyH_done (by kernel_rfl) ?_ _
        clear hHeld2
        have hbq := hbz6
        clear e0 e1 e2 e3 cux
        go_wp2_with fail
        go_roundw
        case rel => exact ⟨i + 1, by omega, by go_num, HNO2.out, hbq⟩
        case measure => simp [intOf]; omega
      · have hs' : stableB (closedW m b c d) = false := by simpa using hs
        have TS := Lib.hid (fun u W (h : Ints W u (closedW m b c d)) => StableR_any u _ W h (by omega))
        rw [hs'] at TS
        have HR := Lib.hid (show L.find? (fun p => !stableB (closedW p b c d)) = some m from find_prefix (pre := L.take i) (by rw [← take_snoc HMK.out]; exact List.take_prefix _ _) (fun y hy => by rw [HNO.out y hy]; rfl) (by rw [hs']; rfl))
        clear hs hs'
        go_wp2_with fail
        refine wp_region_held_drew (S := (fun w' => w'.cell? ⟨w.heap.size, 0, none⟩ = some (.slice xa a.length ca) ∧ w'.cell? ⟨w.heap.size, 1, none⟩ = some (.slice xb b.length cb) ∧ w'.cell? ⟨w.heap.size, 2, none⟩ = some (.slice xc c.length cc) ∧ w'.cell? ⟨w.heap.size, 3, none⟩ = some (.slice xd d.length cd) ∧ w'.cell? ⟨ba, oa + i, none⟩ = some (.slice pa m.length pc))) (by kernel_rfl) ⟨cellb e0 hbr.drew, cellb e1 hbr.drew, cellb e2 hbr.drew, cellb e3 hbr.drew, cellb cux hbr.drew⟩ (fun hHeld0 => ?_)
        obtain ⟨wzd, hwz⟩ : ∃ v, v = wr.drew := ⟨_, rfl⟩
        rw [← hwz] at hHeld0 ⊢
        have hbzd : Below ws.heap.size ws wzd := by rw [hwz]; exact hbr.drew
        have hlzd : Below wr.heap.size wr wzd := by rw [hwz]; exact (Below.refl _ _).drew
        clear hwz hlzd
        refine wpAnyH_take (i := 0) (oi := { dst := some 16, op := Op.load 40 (Operand.tmp 2), type := 40, pos := "ref.go:347", after := #[], guard := none }) (v := ?_) rfl (by kernel_rfl) (by kernel_rfl) (by kernel_rfl) (fun _ _ _ h => h) (Or.inl ⟨by rfl, ?_⟩) (by assumption) ?_
        rotate_left
        · (intro w hSw; (try dsimp only at hSw); go_simp); (try with_reducible rfl)
        try simp only [Act.put, List.setIfInBounds_toArray, List.set_cons_zero, List.set_cons_succ]
        refine wpAnyH_take (i := 1) (oi := { dst := some 17, op := Op.move (Operand.tmp 6), type := 104, pos := "ref.go:347", after := #[], guard := none }) (v := ?_) rfl (by kernel_rfl) (by kernel_rfl) (by kernel_rfl) (fun _ _ _ h => h) (Or.inl ⟨by rfl, ?_⟩) (by assumption) ?_
        rotate_left
        · (intro w hSw; (try dsimp only at hSw); go_simp); (try with_reducible rfl)
        try simp only [Act.put, List.setIfInBounds_toArray, List.set_cons_zero, List.set_cons_succ]
        refine wpAnyH_take (i := 2) (oi := { dst := some 18, op := Op.move (Operand.tmp 7), type := 3, pos := "ref.go:347", after := #[], guard := none }) (v := ?_) rfl (by kernel_rfl) (by kernel_rfl) (by kernel_rfl) (fun _ _ _ h => h) (Or.inl ⟨by rfl, ?_⟩) (by assumption) ?_
        rotate_left
        · (intro w hSw; (try dsimp only at hSw); go_simp); (try with_reducible rfl)
        try simp only [Act.put, List.setIfInBounds_toArray, List.set_cons_zero, List.set_cons_succ]
        refine wpAnyH_take (i := 3) (oi := { dst := some 19, op := Op.indexAddr 104 (Operand.tmp 17) (Operand.tmp 18), type := 0, pos := "ref.go:347", after := #[{ on := 1, ground := Ground.data }, { on := 2, ground := Ground.data }], guard := none }) (v := ?_) rfl (by kernel_rfl) (by kernel_rfl) (by kernel_rfl) (fun _ _ _ h => h) (Or.inl ⟨by rfl, ?_⟩) (by assumption) ?_
        rotate_left
        · (intro w hSw; (try dsimp only at hSw); go_simp); (try with_reducible rfl)
        try simp only [Act.put, List.setIfInBounds_toArray, List.set_cons_zero, List.set_cons_succ]
        refine wpAnyH_take (i := 4) (oi := { dst := some 20, op := Op.load 22 (Operand.tmp 19), type := 22, pos := "ref.go:347", after := #[{ on := 3, ground := Ground.data }], guard := none }) (v := ?_) rfl (by kernel_rfl) (by kernel_rfl) (by kernel_rfl) (fun _ _ _ h => h) (Or.inl ⟨by rfl, ?_⟩) (by assumption) ?_
        rotate_left
        · (intro w hSw; (try dsimp only at hSw); go_simp); (try with_reducible rfl)
        try simp only [Act.put, List.setIfInBounds_toArray, List.set_cons_zero, List.set_cons_succ]
        refine wpAnyH_ready (rs := [5]) (by kernel_rfl) (by simp) ?_
        refine (AllReadyH.cons (o := { dst := some 21, op := Op.call { callee := Callee.value (Operand.func 32), args := #[Operand.tmp 16, Operand.tmp 20], argTypes := #[40, 22] }, type := 22, pos := "ref.go:347", after := #[{ on := 0, ground := Ground.data }, { on := 4, ground := Ground.data }], guard := none }) rfl (fun K hK => ?_) AllReadyH.nil)
        go_simp
        refine (ClosedR_any _ _ _ _ _ a b c d m wzd (HA.out.carry (bthen hB hbzd)) (HB.out.carry (bthen hB hbzd)) (HC.out.carry (bthen hB hbzd)) (HD.out.carry (bthen hB hbzd)) (HIX.out.carry hbzd) bb1 c1 d1 (by have := HM1.out; omega) (by omega) (by omega) (by omega) (by have := HM1.out; omega)).mono ?_
        rintro e wz5 ⟨⟨u9, rfl, hu9⟩, hl⟩
        (try go_wp2_with fail)
        have hbz5 := bthen hbzd hl
        clear hl
        refine hK.out _ _ ⟨cellb e0 hbz5, cellb e1 hbz5, cellb e2 hbz5, cellb e3 hbz5, cellb cux hbz5⟩ (fun hHeld1 => ?_)
        clear hK K hHeld0
        try simp only [Act.put, List.setIfInBounds_toArray, List.set_cons_zero, List.set_cons_succ]
        refine wpAnyH_ready (rs := [6]) (by kernel_rfl) (by simp) ?_
        refine (AllReadyH.cons (o := { dst := some 22, op := Op.call { callee := Callee.value (Operand.func 78), args := #[Operand.tmp 21], argTypes := #[22] }, type := 4, pos := "ref.go:347", after := #[{ on := 5, ground := Ground.data }, { on := 5, ground := Ground.chain }], guard := none }) rfl (fun K hK => ?_) AllReadyH.nil)
        go_simp
        refine (TS.out u9 wz5 hu9).mono ?_
        rintro e wz6 ⟨rfl, hl⟩
        (try go_wp2_with fail)
        have hbz6 := bthen hbz5 hl
        have hu9 := hu9.carry hl
        clear hl
        refine hK.out _ _ ⟨cellb e0 hbz6, cellb e1 hbz6, cellb e2 hbz6, cellb e3 hbz6, cellb cux hbz6⟩ (fun hHeld2 => ?_)
        clear hK K hHeld1
        try simp only [Act.put, List.setIfInBounds_toArray, List.set_cons_zero, List.set_cons_succ]
        refine wpAnyH_take (i := 7) (oi := { dst := some 23, op := Op.unOp UnOp.not 4 (Operand.tmp 22), type := 4, pos := "ref.go:347", after := #[{ on := 6, ground := Ground.data }], guard := none }) (v := ?_) rfl (by kernel_rfl) (by kernel_rfl) (by kernel_rfl) (fun _ _ _ h => h) (Or.inl ⟨by rfl, ?_⟩) (by assumption) ?_
        rotate_left
        · (intro w hSw; (try dsimp only at hSw); go_simp); (try with_reducible rfl)
        try simp only [Act.put, List.setIfInBounds_toArray, List.set_cons_zero, List.set_cons_succ]
        refine wpAnyH_done (by kernel_rfl) ?_ _
        clear hHeld2
        have hbq := hbz6
        obtain ⟨wq, hwq⟩ : ∃ v, v = wz6 := ⟨_, rfl⟩
        rw [← hwq] at hbq ⊢
        clear hwq
        have cux := cellb cux hbq
        clear e0 e1 e2 e3
        go_wp2_with fail
        go_ret2
        exact ⟨⟨_, by rw [HCW.out, HR.out]; rfl, by rw [HCW.out, HR.out]; exact HIX.out.carry hbq⟩, bthen hB hbq⟩
    · obtain rfl : i = L.length := by omega
      have HR := Lib.hid (show L.find? (fun p => !stableB (closedW p b c d)) = none by
        have := HNO.out
        rw [List.take_length] at this
        rw [List.find?_eq_none]
        intro y hy
        rw [this y hy]; simp)
      go_wp2_with fail
      go_ret2
      exact ⟨⟨_, by rw [HCW.out, HR.out]; rfl, by rw [HCW.out, HR.out]; exact Ints.nil _⟩, bthen hB hbr⟩

end Go.Proofs.YtnlmaildmeihgaaGreatDoor

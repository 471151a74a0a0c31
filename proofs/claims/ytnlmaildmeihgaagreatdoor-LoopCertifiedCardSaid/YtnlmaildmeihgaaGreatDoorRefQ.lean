/- The reference's CheckBox. -/
import Derived.Test.YtnlmaildmeihgaaGreatDoorRefO
namespace Go.Proofs.YtnlmaildmeihgaaGreatDoor
open Go.RowKit

set_option maxRecDepth 100000 in
set_option maxHeartbeats 8000000 in
theorem CheckBoxR_any (va vb vc vd vx : Value) (a b c d : List Int) (bx : List (Int × Int)) (w : World) (ha : Ints w va a) (hb : Ints w vb b) (hc : Ints w vc c) (hd : Ints w vd d) (hx : Pairs w vx bx)
    (ha2 : a.length ≤ 100000) (hb2 : b.length ≤ 100000) (hc2 : c.length ≤ 100000) (hd2 : d.length ≤ 100000) :
    Calls Tryz.prog 38 #[.agg #[va, vb, vc, vd], vx] w fun e w' => e = .returned (.int .i64 (checkBoxE a b c d bx)) ∧ Below w.heap.size w w' := by
  have HA := Lib.hid ha
  have HB := Lib.hid hb
  have HC := Lib.hid hc
  have HD := Lib.hid hd
  have HX := Lib.hid hx
  obtain ⟨xa, ca, rfl, _⟩ := id ha
  obtain ⟨xb, cb, rfl, _⟩ := id hb
  obtain ⟨xc, cc, rfl, _⟩ := id hc
  obtain ⟨xd, cd, rfl, _⟩ := id hd
  obtain ⟨xx, cx, rfl, _⟩ := id hx
  clear ha hb hc hd hx
  go_enter Tryz.func38, Tryz.ntmps38
  go_upto_region 1 with fail
  obtain ⟨W1, hW1⟩ : ∃ v, v = World.alloc w (Obj.cells #[.slice xa a.length ca, .slice xb b.length cb, .slice xc c.length cc, .slice xd d.length cd] 40) := ⟨_, rfl⟩
  have kW1 : Below w.heap.size w W1 := by rw [hW1]; exact below_new _ _
  have iW1 : Blk W1 (w.heap.size) 40 [.slice xa a.length ca, .slice xb b.length cb, .slice xc c.length cc, .slice xd d.length cd] := by rw [hW1]; exact Blk.new _ _ _
  have sW1 : W1.heap.size = w.heap.size + 1 := by rw [hW1]; simp
  rw [← hW1]
  clear hW1
  clear sW1
  have hB := kW1
  have iB := iW1
  clear kW1 iW1
  have e0 := iB.cell (j := 0) (v := .slice xa a.length ca) rfl
  have e1 := iB.cell (j := 1) (v := .slice xb b.length cb) rfl
  have e2 := iB.cell (j := 2) (v := .slice xc c.length cc) rfl
  have e3 := iB.cell (j := 3) (v := .slice xd d.length cd) rfl
  go_wp2_with fail
  clear e0 e1 e2 e3
  refine (CheckLoopR_any _ _ _ _ a b c d W1 (HA.out.carry hB) (HB.out.carry hB) (HC.out.carry hB) (HD.out.carry hB) ha2 hb2 hc2 hd2).mono ?_
  rintro e w2 ⟨rfl, hl⟩
  replace hB := bthen hB hl
  replace iB := iB.carry hl
  clear hl
  by_cases h1 : checkLoopE a b c d = 0
  · have HE1 := Lib.hid h1
    obtain ⟨⟨a1, a5⟩, ⟨bb1, b5⟩, ⟨c1, c5⟩, ⟨d1, d5⟩⟩ := checkLoopE_len h1
    rw [h1]
    clear h1
    have e0 := iB.cell (j := 0) (v := .slice xa a.length ca) rfl
    have e1 := iB.cell (j := 1) (v := .slice xb b.length cb) rfl
    have e2 := iB.cell (j := 2) (v := .slice xc c.length cc) rfl
    have e3 := iB.cell (j := 3) (v := .slice xd d.length cd) rfl
    by_cases h2 : bx.length = a.length
    · have HL := Lib.hid h2
      have hx1 : 1 ≤ bx.length := by omega
      have hx5 : bx.length ≤ 5 := by omega
      obtain ⟨xb', xo, _, hxe, hxc⟩ := HX.out.head (by omega)
      cases hxe
      have HXC := Lib.hid hxc
      clear hxc
      have d2 : (bx.length : Int) = (a.length : Int) := by omega
      clear h2
      go_wp2_with fail
      clear d2 e0 e1 e2 e3
      obtain ⟨wo, rfl⟩ : ∃ v, v = w2 := ⟨_, rfl⟩
      go_loopw [6] (fun v6 wr => ∃ i : Nat, i ≤ bx.length ∧ v6 = .int .i64 i ∧ firstE ((bx.take i).map boxE) = 0 ∧ Below wo.heap.size wo wr) (fun v6 _ => bx.length - (intOf v6).toNat)
      case atStart => exact ⟨0, Nat.zero_le _, rfl, rfl, Below.refl _ _⟩
      case round =>
        obtain ⟨i, hi, rfl, hf, hbr⟩ := hrel
        have HF := Lib.hid hf
        clear hf
        by_cases hlt : i < bx.length
        · obtain ⟨x, hx⟩ : ∃ x, bx[i]? = some x := ⟨_, List.getElem?_eq_getElem hlt⟩
          have hsx := firstE_mapP_succ boxE bx i x hx HF.out
          rw [boxE_of] at hsx
          obtain ⟨q0, q1⟩ := HXC.out i x hx
          have q0 := cellb q0 hB
          have q1 := cellb q1 hB
          obtain ⟨lo, up⟩ := x
          simp only at hsx q0 q1
          have HSX := Lib.hid hsx
          clear hx hsx
          go_wp2_with fail
          go_cut [7] from 31 to 44 (fun v7 wn => v7 = .int .i64 (firstE [withinE lo (-100) 100, withinE up (-100) 100]) ∧ Below wo.heap.size wo wn)
          case first =>
            refine wp_region_held_drew (S := (fun w' => w'.cell? ⟨xb', xo + i * 2, none⟩ = some (.int .i64 lo) ∧ w'.cell? ⟨xb', xo + i * 2 + 1, none⟩ = some (.int .i64 up))) (by kernel_rfl) ⟨cellb q0 hbr.drew, cellb q1 hbr.drew⟩ (fun hHeld0 => ?_)
            obtain ⟨wzd, hwz⟩ : ∃ v, v = wr.drew := ⟨_, rfl⟩
            rw [← hwz] at hHeld0 ⊢
            have hbzd : Below wo.heap.size wo wzd := by rw [hwz]; exact hbr.drew
            have hlzd : Below wr.heap.size wr wzd := by rw [hwz]; exact (Below.refl _ _).drew
            clear hwz hlzd
            refine wpAnyH_take (i := 0) (oi := { dst := some 31, op := Op.move (Operand.tmp 1), type := 64, pos := "ref.go:317", after := #[], guard := none }) (v := ?_) rfl (by kernel_rfl) (by kernel_rfl) (by kernel_rfl) (fun _ _ _ h => h) (Or.inl ⟨by rfl, ?_⟩) (by assumption) ?_
            rotate_left
            · (intro w hSw; (try dsimp only at hSw); go_simp); (try with_reducible rfl)
            try simp only [Act.put, List.setIfInBounds_toArray, List.set_cons_zero, List.set_cons_succ]
            refine wpAnyH_take (i := 1) (oi := { dst := some 32, op := Op.move (Operand.tmp 6), type := 3, pos := "ref.go:317", after := #[], guard := none }) (v := ?_) rfl (by kernel_rfl) (by kernel_rfl) (by kernel_rfl) (fun _ _ _ h => h) (Or.inl ⟨by rfl, ?_⟩) (by assumption) ?_
            rotate_left
            · (intro w hSw; (try dsimp only at hSw); go_simp); (try with_reducible rfl)
            try simp only [Act.put, List.setIfInBounds_toArray, List.set_cons_zero, List.set_cons_succ]
            refine wpAnyH_take (i := 2) (oi := { dst := some 33, op := Op.indexAddr 64 (Operand.tmp 31) (Operand.tmp 32), type := 0, pos := "ref.go:317", after := #[{ on := 0, ground := Ground.data }, { on := 1, ground := Ground.data }], guard := none }) (v := ?_) rfl (by kernel_rfl) (by kernel_rfl) (by kernel_rfl) (fun _ _ _ h => h) (Or.inl ⟨by rfl, ?_⟩) (by assumption) ?_
            rotate_left
            · (intro w hSw; (try dsimp only at hSw); go_simp); (try with_reducible rfl)
            try simp only [Act.put, List.setIfInBounds_toArray, List.set_cons_zero, List.set_cons_succ]
            refine wpAnyH_take (i := 3) (oi := { dst := some 34, op := Op.fieldAddr 148 (Operand.tmp 33) 0, type := 0, pos := "ref.go:317", after := #[{ on := 2, ground := Ground.data }], guard := none }) (v := ?_) rfl (by kernel_rfl) (by kernel_rfl) (by kernel_rfl) (fun _ _ _ h => h) (Or.inl ⟨by rfl, ?_⟩) (by assumption) ?_
            rotate_left
            · (intro w hSw; (try dsimp only at hSw); go_simp); (try with_reducible rfl)
            try simp only [Act.put, List.setIfInBounds_toArray, List.set_cons_zero, List.set_cons_succ]
            refine wpAnyH_take (i := 4) (oi := { dst := some 35, op := Op.load 3 (Operand.tmp 34), type := 3, pos := "ref.go:317", after := #[{ on := 3, ground := Ground.data }], guard := none }) (v := ?_) rfl (by kernel_rfl) (by kernel_rfl) (by kernel_rfl) (fun _ _ _ h => h) (Or.inl ⟨by rfl, ?_⟩) (by assumption) ?_
            rotate_left
            · (intro w hSw; (try dsimp only at hSw); go_simp); (try with_reducible rfl)
            try simp only [Act.put, List.setIfInBounds_toArray, List.set_cons_zero, List.set_cons_succ]
            refine wpAnyH_take (i := 6) (oi := { dst := some 37, op := Op.move (Operand.tmp 1), type := 64, pos := "ref.go:317", after := #[], guard := none }) (v := ?_) rfl (by kernel_rfl) (by kernel_rfl) (by kernel_rfl) (fun _ _ _ h => h) (Or.inl ⟨by rfl, ?_⟩) (by assumption) ?_
            rotate_left
            · (intro w hSw; (try dsimp only at hSw); go_simp); (try with_reducible rfl)
            try simp only [Act.put, List.setIfInBounds_toArray, List.set_cons_zero, List.set_cons_succ]
            refine wpAnyH_take (i := 7) (oi := { dst := some 38, op := Op.move (Operand.tmp 6), type := 3, pos := "ref.go:317", after := #[], guard := none }) (v := ?_) rfl (by kernel_rfl) (by kernel_rfl) (by kernel_rfl) (fun _ _ _ h => h) (Or.inl ⟨by rfl, ?_⟩) (by assumption) ?_
            rotate_left
            · (intro w hSw; (try dsimp only at hSw); go_simp); (try with_reducible rfl)
            try simp only [Act.put, List.setIfInBounds_toArray, List.set_cons_zero, List.set_cons_succ]
            refine wpAnyH_take (i := 8) (oi := { dst := some 39, op := Op.indexAddr 64 (Operand.tmp 37) (Operand.tmp 38), type := 0, pos := "ref.go:317", after := #[{ on := 6, ground := Ground.data }, { on := 7, ground := Ground.data }], guard := none }) (v := ?_) rfl (by kernel_rfl) (by kernel_rfl) (by kernel_rfl) (fun _ _ _ h => h) (Or.inl ⟨by rfl, ?_⟩) (by assumption) ?_
            rotate_left
            · (intro w hSw; (try dsimp only at hSw); go_simp); (try with_reducible rfl)
            try simp only [Act.put, List.setIfInBounds_toArray, List.set_cons_zero, List.set_cons_succ]
            refine wpAnyH_take (i := 9) (oi := { dst := some 40, op := Op.fieldAddr 148 (Operand.tmp 39) 1, type := 0, pos := "ref.go:317", after := #[{ on := 8, ground := Ground.data }], guard := none }) (v := ?_) rfl (by kernel_rfl) (by kernel_rfl) (by kernel_rfl) (fun _ _ _ h => h) (Or.inl ⟨by rfl, ?_⟩) (by assumption) ?_
            rotate_left
            · (intro w hSw; (try dsimp only at hSw); go_simp); (try with_reducible rfl)
            try simp only [Act.put, List.setIfInBounds_toArray, List.set_cons_zero, List.set_cons_succ]
            refine wpAnyH_take (i := 10) (oi := { dst := some 41, op := Op.load 3 (Operand.tmp 40), type := 3, pos := "ref.go:317", after := #[{ on := 9, ground := Ground.data }], guard := none }) (v := ?_) rfl (by kernel_rfl) (by kernel_rfl) (by kernel_rfl) (fun _ _ _ h => h) (Or.inl ⟨by rfl, ?_⟩) (by assumption) ?_
            rotate_left
            · (intro w hSw; (try dsimp only at hSw); go_simp); (try with_reducible rfl)
            try simp only [Act.put, List.setIfInBounds_toArray, List.set_cons_zero, List.set_cons_succ]
            refine wpAnyH_ready (rs := [5]) (by kernel_rfl) (by simp) ?_
            refine (AllReadyH.cons (o := { dst := some 36, op := Op.call { callee := Callee.value (Operand.func 68), args := #[Operand.tmp 35, Operand.const (Value.int IntKind.i64 (-100)), Operand.const (Value.int IntKind.i64 100)], argTypes := #[3, 3, 3] }, type := 3, pos := "ref.go:317", after := #[{ on := 4, ground := Ground.data }], guard := none }) rfl (fun K hK => ?_) AllReadyH.nil)
            go_simp
            refine (CheckRange_any lo (-100) 100 wzd).mono ?_
            rintro e wz5 ⟨rfl, hww⟩
            have hl : Below wzd.heap.size wzd wz5 := by rw [hww]; exact Below.refl _ _
            clear hww
            (try go_wp2_with fail)
            have hbz5 := bthen hbzd hl
            clear hl
            refine hK.out _ _ ⟨cellb q0 hbz5, cellb q1 hbz5⟩ (fun hHeld1 => ?_)
            clear hK K hHeld0
            try simp only [Act.put, List.setIfInBounds_toArray, List.set_cons_zero, List.set_cons_succ]
            refine wpAnyH_ready (rs := [11]) (by kernel_rfl) (by simp) ?_
            refine (AllReadyH.cons (o := { dst := some 42, op := Op.call { callee := Callee.value (Operand.func 68), args := #[Operand.tmp 41, Operand.const (Value.int IntKind.i64 (-100)), Operand.const (Value.int IntKind.i64 100)], argTypes := #[3, 3, 3] }, type := 3, pos := "ref.go:317", after := #[{ on := 10, ground := Ground.data }, { on := 5, ground := Ground.chain }], guard := none }) rfl (fun K hK => ?_) AllReadyH.nil)
            go_simp
            refine (CheckRange_any up (-100) 100 wz5).mono ?_
            rintro e wz11 ⟨rfl, hww⟩
            have hl : Below wz5.heap.size wz5 wz11 := by rw [hww]; exact Below.refl _ _
            clear hww
            (try go_wp2_with fail)
            have hbz11 := bthen hbz5 hl
            clear hl
            refine hK.out _ _ ⟨cellb q0 hbz11, cellb q1 hbz11⟩ (fun hHeld2 => ?_)
            clear hK K hHeld1
            try simp only [Act.put, List.setIfInBounds_toArray, List.set_cons_zero, List.set_cons_succ]
            refine wpAnyH_ready (rs := [12]) (by kernel_rfl) (by simp) ?_
            refine (AllReadyH.cons (o := { dst := some 43, op := Op.buildSlice 22 2 #[(0, Operand.tmp 36), (1, Operand.tmp 42)], type := 22, pos := "ref.go:317", after := #[{ on := 5, ground := Ground.data }, { on := 11, ground := Ground.data }], guard := none }) rfl (fun K hK => ?_) AllReadyH.nil)
            go_simp
            obtain ⟨wz12, hwz⟩ : ∃ v, v = wz11.alloc (Obj.cells #[.int .i64 (withinE lo (-100) 100), .int .i64 (withinE up (-100) 100)] 3) := ⟨_, rfl⟩
            rw [← hwz]
            have hl : Below wz11.heap.size wz11 wz12 := by rw [hwz]; exact below_new _ _
            have hbz12 := bthen hbz11 hl
            have bs : BlkI wz12 wz11.heap.size 3 [withinE lo (-100) 100, withinE up (-100) 100] := by rw [hwz]; exact Blk.new _ _ _
            generalize wz11.heap.size = G at bs ⊢
            clear hwz
            clear hl
            refine hK.out _ _ ⟨cellb q0 hbz12, cellb q1 hbz12⟩ (fun hHeld3 => ?_)
            clear hK K hHeld2
            try simp only [Act.put, List.setIfInBounds_toArray, List.set_cons_zero, List.set_cons_succ]
            refine wpAnyH_ready (rs := [13]) (by kernel_rfl) (by simp) ?_
            refine (AllReadyH.cons (o := { dst := some 44, op := Op.call { callee := Callee.value (Operand.func 49), args := #[Operand.tmp 43], argTypes := #[22] }, type := 3, pos := "ref.go:317", after := #[{ on := 12, ground := Ground.data }, { on := 11, ground := Ground.chain }], guard := none }) rfl (fun K hK => ?_) AllReadyH.nil)
            go_simp
            refine (FirstR_any _ [withinE lo (-100) 100, withinE up (-100) 100] wz12 (by simp) (BlkI.ints (n := 2) bs rfl)).mono ?_
            rintro e wz13 ⟨rfl, hww⟩
            have hl : Below wz12.heap.size wz12 wz13 := by rw [hww]; exact Below.refl _ _
            clear hww
            (try go_wp2_with fail)
            have hbz13 := bthen hbz12 hl
            have bs := bs.carry hl
            clear hl
            refine hK.out _ _ ⟨cellb q0 hbz13, cellb q1 hbz13⟩ (fun hHeld4 => ?_)
            clear hK K hHeld3
            try simp only [Act.put, List.setIfInBounds_toArray, List.set_cons_zero, List.set_cons_succ]
            refine wpAnyH_take (i := 14) (oi := { dst := some 7, op := Op.assign (Operand.tmp 44), type := 3, pos := "ref.go:317", after := #[{ on := 13, ground := Ground.data }, { on := 13, ground := Ground.chain }, { on := 0, ground := Ground.phase }, { on := 1, ground := Ground.phase }, { on := 2, ground := Ground.phase }, { on := 3, ground := Ground.phase }, { on := 4, ground := Ground.phase }, { on := 5, ground := Ground.phase }, { on := 6, ground := Ground.phase }, { on := 7, ground := Ground.phase }, { on := 8, ground := Ground.phase }, { on := 9, ground := Ground.phase }, { on := 10, ground := Ground.phase }, { on := 11, ground := Ground.phase }, { on := 12, ground := Ground.phase }, { on := 13, ground := Ground.phase }], guard := none }) (v := ?_) rfl (by kernel_rfl) (by kernel_rfl) (by kernel_rfl) (fun _ _ _ h => h) (Or.inl ⟨by rfl, ?_⟩) (by assumption) ?_
            rotate_left
            · (intro w hSw; (try dsimp only at hSw); go_simp); (try with_reducible rfl)
            try simp only [Act.put, List.setIfInBounds_toArray, List.set_cons_zero, List.set_cons_succ]
            refine wpAnyH_done (by kernel_rfl) ?_ _
            clear hHeld4
            go_wp2_with fail
            go_meet
            exact ⟨rfl, hbz13⟩
          case rest =>
            obtain ⟨rfl, hl⟩ := hcut
            obtain ⟨wq, rfl⟩ : ∃ v, v = wc := ⟨_, rfl⟩
            have r0 := cellb q0 hl
            have r1 := cellb q1 hl
            clear q0 q1 hbr
            by_cases h3 : firstE [withinE lo (-100) 100, withinE up (-100) 100] = 0
            · have hsy := HSX.out
              rw [if_neg (by rw [h3]; simp)] at hsy
              rw [h3]
              clear HSX h3
              by_cases h4 : up < lo
              · rw [if_pos h4] at hsy
                have hi2 : intervalsE bx = 11 := by rw [show intervalsE bx = _ from firstE_mapP_take boxE bx (i + 1) (by rw [hsy]; simp), hsy]
                have HR := Lib.hid (box1_bad HE1.out HL.out (by rw [hi2]; simp))
                have HR2 := Lib.hid hi2
                clear hsy hi2
                go_wp2_with fail
                refine wp_region_held_drew (S := (fun w' => w'.cell? ⟨xb', xo + i * 2, none⟩ = some (.int .i64 lo) ∧ w'.cell? ⟨xb', xo + i * 2 + 1, none⟩ = some (.int .i64 up))) (by kernel_rfl) ?_ (fun hHeld0 => ?_)
                · (try dsimp only); go_keep
                refine wpAnyH_take (i := 0) (oi := { dst := some 48, op := Op.move (Operand.tmp 1), type := 64, pos := "ref.go:320", after := #[], guard := none }) (v := ?_) rfl (by kernel_rfl) (by kernel_rfl) (by kernel_rfl) (fun _ _ _ h => h) (Or.inl ⟨by rfl, ?_⟩) (by assumption) ?_
                rotate_left
                · (intro w hSw; (try dsimp only at hSw); go_simp); (try with_reducible rfl)
                try simp only [Act.put, List.setIfInBounds_toArray, List.set_cons_zero, List.set_cons_succ]
                refine wpAnyH_take (i := 1) (oi := { dst := some 49, op := Op.move (Operand.tmp 6), type := 3, pos := "ref.go:320", after := #[], guard := none }) (v := ?_) rfl (by kernel_rfl) (by kernel_rfl) (by kernel_rfl) (fun _ _ _ h => h) (Or.inl ⟨by rfl, ?_⟩) (by assumption) ?_
                rotate_left
                · (intro w hSw; (try dsimp only at hSw); go_simp); (try with_reducible rfl)
                try simp only [Act.put, List.setIfInBounds_toArray, List.set_cons_zero, List.set_cons_succ]
                refine wpAnyH_take (i := 2) (oi := { dst := some 50, op := Op.indexAddr 64 (Operand.tmp 48) (Operand.tmp 49), type := 0, pos := "ref.go:320", after := #[{ on := 0, ground := Ground.data }, { on := 1, ground := Ground.data }], guard := none }) (v := ?_) rfl (by kernel_rfl) (by kernel_rfl) (by kernel_rfl) (fun _ _ _ h => h) (Or.inl ⟨by rfl, ?_⟩) (by assumption) ?_
                rotate_left
                · (intro w hSw; (try dsimp only at hSw); go_simp); (try with_reducible rfl)
                try simp only [Act.put, List.setIfInBounds_toArray, List.set_cons_zero, List.set_cons_succ]
                refine wpAnyH_take (i := 3) (oi := { dst := some 51, op := Op.fieldAddr 148 (Operand.tmp 50) 0, type := 0, pos := "ref.go:320", after := #[{ on := 2, ground := Ground.data }], guard := none }) (v := ?_) rfl (by kernel_rfl) (by kernel_rfl) (by kernel_rfl) (fun _ _ _ h => h) (Or.inl ⟨by rfl, ?_⟩) (by assumption) ?_
                rotate_left
                · (intro w hSw; (try dsimp only at hSw); go_simp); (try with_reducible rfl)
                try simp only [Act.put, List.setIfInBounds_toArray, List.set_cons_zero, List.set_cons_succ]
                refine wpAnyH_take (i := 4) (oi := { dst := some 52, op := Op.load 3 (Operand.tmp 51), type := 3, pos := "ref.go:320", after := #[{ on := 3, ground := Ground.data }], guard := none }) (v := ?_) rfl (by kernel_rfl) (by kernel_rfl) (by kernel_rfl) (fun _ _ _ h => h) (Or.inl ⟨by rfl, ?_⟩) (by assumption) ?_
                rotate_left
                · (intro w hSw; (try dsimp only at hSw); go_simp); (try with_reducible rfl)
                try simp only [Act.put, List.setIfInBounds_toArray, List.set_cons_zero, List.set_cons_succ]
                refine wpAnyH_take (i := 5) (oi := { dst := some 53, op := Op.move (Operand.tmp 1), type := 64, pos := "ref.go:320", after := #[], guard := none }) (v := ?_) rfl (by kernel_rfl) (by kernel_rfl) (by kernel_rfl) (fun _ _ _ h => h) (Or.inl ⟨by rfl, ?_⟩) (by assumption) ?_
                rotate_left
                · (intro w hSw; (try dsimp only at hSw); go_simp); (try with_reducible rfl)
                try simp only [Act.put, List.setIfInBounds_toArray, List.set_cons_zero, List.set_cons_succ]
                refine wpAnyH_take (i := 6) (oi := { dst := some 54, op := Op.move (Operand.tmp 6), type := 3, pos := "ref.go:320", after := #[], guard := none }) (v := ?_) rfl (by kernel_rfl) (by kernel_rfl) (by kernel_rfl) (fun _ _ _ h => h) (Or.inl ⟨by rfl, ?_⟩) (by assumption) ?_
                rotate_left
                · (intro w hSw; (try dsimp only at hSw); go_simp); (try with_reducible rfl)
                try simp only [Act.put, List.setIfInBounds_toArray, List.set_cons_zero, List.set_cons_succ]
                refine wpAnyH_take (i := 7) (oi := { dst := some 55, op := Op.indexAddr 64 (Operand.tmp 53) (Operand.tmp 54), type := 0, pos := "ref.go:320", after := #[{ on := 5, ground := Ground.data }, { on := 6, ground := Ground.data }], guard := none }) (v := ?_) rfl (by kernel_rfl) (by kernel_rfl) (by kernel_rfl) (fun _ _ _ h => h) (Or.inl ⟨by rfl, ?_⟩) (by assumption) ?_
                rotate_left
                · (intro w hSw; (try dsimp only at hSw); go_simp); (try with_reducible rfl)
                try simp only [Act.put, List.setIfInBounds_toArray, List.set_cons_zero, List.set_cons_succ]
                refine wpAnyH_take (i := 8) (oi := { dst := some 56, op := Op.fieldAddr 148 (Operand.tmp 55) 1, type := 0, pos := "ref.go:320", after := #[{ on := 7, ground := Ground.data }], guard := none }) (v := ?_) rfl (by kernel_rfl) (by kernel_rfl) (by kernel_rfl) (fun _ _ _ h => h) (Or.inl ⟨by rfl, ?_⟩) (by assumption) ?_
                rotate_left
                · (intro w hSw; (try dsimp only at hSw); go_simp); (try with_reducible rfl)
                try simp only [Act.put, List.setIfInBounds_toArray, List.set_cons_zero, List.set_cons_succ]
                refine wpAnyH_take (i := 9) (oi := { dst := some 57, op := Op.load 3 (Operand.tmp 56), type := 3, pos := "ref.go:320", after := #[{ on := 8, ground := Ground.data }], guard := none }) (v := ?_) rfl (by kernel_rfl) (by kernel_rfl) (by kernel_rfl) (fun _ _ _ h => h) (Or.inl ⟨by rfl, ?_⟩) (by assumption) ?_
                rotate_left
                · (intro w hSw; (try dsimp only at hSw); go_simp); (try with_reducible rfl)
                try simp only [Act.put, List.setIfInBounds_toArray, List.set_cons_zero, List.set_cons_succ]
                refine wpAnyH_take (i := 10) (oi := { dst := some 58, op := Op.binOp BinOp.gtr 3 (Operand.tmp 52) (Operand.tmp 57) 3, type := 4, pos := "ref.go:320", after := #[{ on := 4, ground := Ground.data }, { on := 9, ground := Ground.data }], guard := none }) (v := ?_) rfl (by kernel_rfl) (by kernel_rfl) (by kernel_rfl) (fun _ _ _ h => h) (Or.inl ⟨by rfl, ?_⟩) (by assumption) ?_
                rotate_left
                · (intro w hSw; (try dsimp only at hSw); go_simp); (try with_reducible rfl)
                try simp only [Act.put, List.setIfInBounds_toArray, List.set_cons_zero, List.set_cons_succ]
                refine wpAnyH_done (by kernel_rfl) ?_ _
                clear hHeld0
                go_wp2_with fail
                go_ret
                exact ⟨by rw [HR.out, HR2.out]; rfl, bthen hB hl.drew⟩
              · rw [if_neg h4] at hsy
                have HF2 := Lib.hid hsy
                clear hsy
                go_wp2_with fail
                refine wp_region_held_drew (S := (fun w' => w'.cell? ⟨xb', xo + i * 2, none⟩ = some (.int .i64 lo) ∧ w'.cell? ⟨xb', xo + i * 2 + 1, none⟩ = some (.int .i64 up))) (by kernel_rfl) ?_ (fun hHeld0 => ?_)
                · (try dsimp only); go_keep
                refine wpAnyH_take (i := 0) (oi := { dst := some 48, op := Op.move (Operand.tmp 1), type := 64, pos := "ref.go:320", after := #[], guard := none }) (v := ?_) rfl (by kernel_rfl) (by kernel_rfl) (by kernel_rfl) (fun _ _ _ h => h) (Or.inl ⟨by rfl, ?_⟩) (by assumption) ?_
                rotate_left
                · (intro w hSw; (try dsimp only at hSw); go_simp); (try with_reducible rfl)
                try simp only [Act.put, List.setIfInBounds_toArray, List.set_cons_zero, List.set_cons_succ]
                refine wpAnyH_take (i := 1) (oi := { dst := some 49, op := Op.move (Operand.tmp 6), type := 3, pos := "ref.go:320", after := #[], guard := none }) (v := ?_) rfl (by kernel_rfl) (by kernel_rfl) (by kernel_rfl) (fun _ _ _ h => h) (Or.inl ⟨by rfl, ?_⟩) (by assumption) ?_
                rotate_left
                · (intro w hSw; (try dsimp only at hSw); go_simp); (try with_reducible rfl)
                try simp only [Act.put, List.setIfInBounds_toArray, List.set_cons_zero, List.set_cons_succ]
                refine wpAnyH_take (i := 2) (oi := { dst := some 50, op := Op.indexAddr 64 (Operand.tmp 48) (Operand.tmp 49), type := 0, pos := "ref.go:320", after := #[{ on := 0, ground := Ground.data }, { on := 1, ground := Ground.data }], guard := none }) (v := ?_) rfl (by kernel_rfl) (by kernel_rfl) (by kernel_rfl) (fun _ _ _ h => h) (Or.inl ⟨by rfl, ?_⟩) (by assumption) ?_
                rotate_left
                · (intro w hSw; (try dsimp only at hSw); go_simp); (try with_reducible rfl)
                try simp only [Act.put, List.setIfInBounds_toArray, List.set_cons_zero, List.set_cons_succ]
                refine wpAnyH_take (i := 3) (oi := { dst := some 51, op := Op.fieldAddr 148 (Operand.tmp 50) 0, type := 0, pos := "ref.go:320", after := #[{ on := 2, ground := Ground.data }], guard := none }) (v := ?_) rfl (by kernel_rfl) (by kernel_rfl) (by kernel_rfl) (fun _ _ _ h => h) (Or.inl ⟨by rfl, ?_⟩) (by assumption) ?_
                rotate_left
                · (intro w hSw; (try dsimp only at hSw); go_simp); (try with_reducible rfl)
                try simp only [Act.put, List.setIfInBounds_toArray, List.set_cons_zero, List.set_cons_succ]
                refine wpAnyH_take (i := 4) (oi := { dst := some 52, op := Op.load 3 (Operand.tmp 51), type := 3, pos := "ref.go:320", after := #[{ on := 3, ground := Ground.data }], guard := none }) (v := ?_) rfl (by kernel_rfl) (by kernel_rfl) (by kernel_rfl) (fun _ _ _ h => h) (Or.inl ⟨by rfl, ?_⟩) (by assumption) ?_
                rotate_left
                · (intro w hSw; (try dsimp only at hSw); go_simp); (try with_reducible rfl)
                try simp only [Act.put, List.setIfInBounds_toArray, List.set_cons_zero, List.set_cons_succ]
                refine wpAnyH_take (i := 5) (oi := { dst := some 53, op := Op.move (Operand.tmp 1), type := 64, pos := "ref.go:320", after := #[], guard := none }) (v := ?_) rfl (by kernel_rfl) (by kernel_rfl) (by kernel_rfl) (fun _ _ _ h => h) (Or.inl ⟨by rfl, ?_⟩) (by assumption) ?_
                rotate_left
                · (intro w hSw; (try dsimp only at hSw); go_simp); (try with_reducible rfl)
                try simp only [Act.put, List.setIfInBounds_toArray, List.set_cons_zero, List.set_cons_succ]
                refine wpAnyH_take (i := 6) (oi := { dst := some 54, op := Op.move (Operand.tmp 6), type := 3, pos := "ref.go:320", after := #[], guard := none }) (v := ?_) rfl (by kernel_rfl) (by kernel_rfl) (by kernel_rfl) (fun _ _ _ h => h) (Or.inl ⟨by rfl, ?_⟩) (by assumption) ?_
                rotate_left
                · (intro w hSw; (try dsimp only at hSw); go_simp); (try with_reducible rfl)
                try simp only [Act.put, List.setIfInBounds_toArray, List.set_cons_zero, List.set_cons_succ]
                refine wpAnyH_take (i := 7) (oi := { dst := some 55, op := Op.indexAddr 64 (Operand.tmp 53) (Operand.tmp 54), type := 0, pos := "ref.go:320", after := #[{ on := 5, ground := Ground.data }, { on := 6, ground := Ground.data }], guard := none }) (v := ?_) rfl (by kernel_rfl) (by kernel_rfl) (by kernel_rfl) (fun _ _ _ h => h) (Or.inl ⟨by rfl, ?_⟩) (by assumption) ?_
                rotate_left
                · (intro w hSw; (try dsimp only at hSw); go_simp); (try with_reducible rfl)
                try simp only [Act.put, List.setIfInBounds_toArray, List.set_cons_zero, List.set_cons_succ]
                refine wpAnyH_take (i := 8) (oi := { dst := some 56, op := Op.fieldAddr 148 (Operand.tmp 55) 1, type := 0, pos := "ref.go:320", after := #[{ on := 7, ground := Ground.data }], guard := none }) (v := ?_) rfl (by kernel_rfl) (by kernel_rfl) (by kernel_rfl) (fun _ _ _ h => h) (Or.inl ⟨by rfl, ?_⟩) (by assumption) ?_
                rotate_left
                · (intro w hSw; (try dsimp only at hSw); go_simp); (try with_reducible rfl)
                try simp only [Act.put, List.setIfInBounds_toArray, List.set_cons_zero, List.set_cons_succ]
                refine wpAnyH_take (i := 9) (oi := { dst := some 57, op := Op.load 3 (Operand.tmp 56), type := 3, pos := "ref.go:320", after := #[{ on := 8, ground := Ground.data }], guard := none }) (v := ?_) rfl (by kernel_rfl) (by kernel_rfl) (by kernel_rfl) (fun _ _ _ h => h) (Or.inl ⟨by rfl, ?_⟩) (by assumption) ?_
                rotate_left
                · (intro w hSw; (try dsimp only at hSw); go_simp); (try with_reducible rfl)
                try simp only [Act.put, List.setIfInBounds_toArray, List.set_cons_zero, List.set_cons_succ]
                refine wpAnyH_take (i := 10) (oi := { dst := some 58, op := Op.binOp BinOp.gtr 3 (Operand.tmp 52) (Operand.tmp 57) 3, type := 4, pos := "ref.go:320", after := #[{ on := 4, ground := Ground.data }, { on := 9, ground := Ground.data }], guard := none }) (v := ?_) rfl (by kernel_rfl) (by kernel_rfl) (by kernel_rfl) (fun _ _ _ h => h) (Or.inl ⟨by rfl, ?_⟩) (by assumption) ?_
                rotate_left
                · (intro w hSw; (try dsimp only at hSw); go_simp); (try with_reducible rfl)
                try simp only [Act.put, List.setIfInBounds_toArray, List.set_cons_zero, List.set_cons_succ]
                refine wpAnyH_done (by kernel_rfl) ?_ _
                clear hHeld0
                go_wp2_with fail
                go_roundw
                case rel => exact ⟨i + 1, by omega, by go_num, HF2.out, hl.drew⟩
                case measure => simp [intOf]; omega
            · have hsy := HSX.out
              rw [if_pos h3] at hsy
              have hi2 : intervalsE bx = firstE [withinE lo (-100) 100, withinE up (-100) 100] := by rw [show intervalsE bx = _ from firstE_mapP_take boxE bx (i + 1) (by rw [hsy]; exact h3), hsy]
              have HR := Lib.hid (box1_bad HE1.out HL.out (by rw [hi2]; exact h3))
              have HR2 := Lib.hid hi2
              clear HSX hsy hi2
              generalize firstE [withinE lo (-100) 100, withinE up (-100) 100] = ee at h3 HR2 ⊢
              go_wp2_with fail
              go_ret
              exact ⟨by rw [HR.out, HR2.out]; rfl, bthen hB hl⟩
        · obtain rfl : i = bx.length := by omega
          have hf := HF.out
          rw [List.take_length] at hf
          have HI := Lib.hid (show intervalsE bx = 0 from hf)
          clear hf HF
          replace hB := bthen hB hbr
          replace iB := iB.carry hbr
          obtain ⟨wp, rfl⟩ : ∃ v, v = wr := ⟨_, rfl⟩
          clear hbr
          obtain ⟨⟨lo, up⟩, hlast⟩ : ∃ x, bx[bx.length - 1]? = some x := ⟨_, List.getElem?_eq_getElem (by omega)⟩
          obtain ⟨x0, x1⟩ := HXC.out _ _ hlast
          have x0 := cellb x0 hB
          have x1 := cellb x1 hB
          have hlp : lastP bx = (lo, up) := by rw [lastP, hlast]; rfl
          have HLP := Lib.hid hlp
          clear hlast hlp
          simp only at x0 x1
          have g1 : IntKind.i64.wrap ((bx.length : Int) - 1) = (bx.length : Int) - 1 := IntWalk.i64_in _ (by omega)
          have g2 : (1 : Int) ≤ (bx.length : Int) := by omega
          have g3 : ((bx.length : Int) - 1).toNat = bx.length - 1 := by omega
          go_upto_region 15 with fail
          obtain ⟨V5, hV5⟩ : ∃ v, v = World.alloc wp (Obj.cells #[.int .i64 lo, .int .i64 up] 148) := ⟨_, rfl⟩
          have kV5 : Below wp.heap.size wp V5 := by rw [hV5]; exact below_new _ _
          have iV5 : Blk V5 (wp.heap.size) 148 [.int .i64 lo, .int .i64 up] := by rw [hV5]; exact Blk.new _ _ _
          have sV5 : V5.heap.size = wp.heap.size + 1 := by rw [hV5]; simp
          rw [← hV5]
          clear hV5
          clear sV5 x0 x1 g1 g2 g3
          have x0 := iV5.cell (j := 0) (v := .int .i64 lo) rfl
          have x1 := iV5.cell (j := 1) (v := .int .i64 up) rfl
          replace hB := bthen hB kV5
          replace iB := iB.carry kV5
          clear kV5 iV5
          by_cases hz : lo ≤ 0 ∧ 0 ≤ up
          · obtain ⟨h1, h2⟩ := hz
            have HR := Lib.hid (box2_zero HE1.out HL.out HI.out (by rw [HLP.out]; exact ⟨h1, h2⟩))
            go_wp2_with fail
            go_ret
            exact ⟨by rw [HR.out]; rfl, hB⟩
          · have hz2 : ¬ ((lastP bx).1 ≤ 0 ∧ 0 ≤ (lastP bx).2) := by rw [HLP.out]; exact hz
            have HZ := Lib.hid hz2
            have hbd := intervalsE_ok HI.out
            have hmc := many_all hbd (by omega)
            have HMC := Lib.hid hmc
            have HBD := Lib.hid hbd
            clear hz2 HLP hbd hmc
            go_cut [72] from 65 to 72 (fun v72 wn => v72 = .bool false ∧ V5 = wn)
            case first =>
              by_cases h1 : lo ≤ 0
              · have h2 : decide (0 ≤ up) = false := decide_eq_false (by omega)
                go_wp2_with fail
                go_meet
                exact ⟨rfl, rfl⟩
              · have h1 : decide (lo ≤ 0) = false := decide_eq_false h1
                go_wp2_with fail
                go_meet
                exact ⟨rfl, rfl⟩
            case rest =>
              obtain ⟨rfl, rfl⟩ := hcut
              go_wp2_with fail
              clear x0 x1
              go_loopw [9, 10] (fun v9 v10 wr => ∃ i : Nat, i ≤ bx.length ∧ v10 = .int .i64 i ∧ v9 = .int .i64 (manyW bx i) ∧ Below V5.heap.size V5 wr) (fun _ v10 _ => bx.length - (intOf v10).toNat)
              case atStart => exact ⟨0, Nat.zero_le _, rfl, rfl, Below.refl _ _⟩
              case round =>
                obtain ⟨i, hi, rfl, rfl, hbr⟩ := hrel
                by_cases hlt : i < bx.length
                · obtain ⟨x, hx⟩ : ∃ x, bx[i]? = some x := ⟨_, List.getElem?_eq_getElem hlt⟩
                  obtain ⟨q0, q1⟩ := HXC.out i x hx
                  have q0 := cellb q0 (bthen hB hbr)
                  have q1 := cellb q1 (bthen hB hbr)
                  have hN : wrap64 (manyW bx i * wrap64 (wrap64 (x.2 - x.1) + 1)) = manyW bx (i + 1) := by rw [manyW, hx]; rfl
                  have HN := Lib.hid hN
                  obtain ⟨lo, up⟩ := x
                  simp only at q0 q1
                  clear hx hN
                  generalize manyW bx i = m at HN ⊢
                  go_wp2_with fail
                  refine wp_region_held_drew (S := (fun w' => w'.cell? ⟨xb', xo + i * 2, none⟩ = some (.int .i64 lo) ∧ w'.cell? ⟨xb', xo + i * 2 + 1, none⟩ = some (.int .i64 up))) (by kernel_rfl) ?_ (fun hHeld0 => ?_)
                  · (try dsimp only); go_keep
                  refine wpAnyH_take (i := 0) (oi := { dst := some 79, op := Op.move (Operand.tmp 9), type := 3, pos := "ref.go:329", after := #[], guard := none }) (v := ?_) rfl (by kernel_rfl) (by kernel_rfl) (by kernel_rfl) (fun _ _ _ h => h) (Or.inl ⟨by rfl, ?_⟩) (by assumption) ?_
                  rotate_left
                  · (intro w hSw; (try dsimp only at hSw); go_simp); (try with_reducible rfl)
                  try simp only [Act.put, List.setIfInBounds_toArray, List.set_cons_zero, List.set_cons_succ]
                  refine wpAnyH_take (i := 1) (oi := { dst := some 80, op := Op.move (Operand.tmp 1), type := 64, pos := "ref.go:329", after := #[], guard := none }) (v := ?_) rfl (by kernel_rfl) (by kernel_rfl) (by kernel_rfl) (fun _ _ _ h => h) (Or.inl ⟨by rfl, ?_⟩) (by assumption) ?_
                  rotate_left
                  · (intro w hSw; (try dsimp only at hSw); go_simp); (try with_reducible rfl)
                  try simp only [Act.put, List.setIfInBounds_toArray, List.set_cons_zero, List.set_cons_succ]
                  refine wpAnyH_take (i := 2) (oi := { dst := some 81, op := Op.move (Operand.tmp 10), type := 3, pos := "ref.go:329", after := #[], guard := none }) (v := ?_) rfl (by kernel_rfl) (by kernel_rfl) (by kernel_rfl) (fun _ _ _ h => h) (Or.inl ⟨by rfl, ?_⟩) (by assumption) ?_
                  rotate_left
                  · (intro w hSw; (try dsimp only at hSw); go_simp); (try with_reducible rfl)
                  try simp only [Act.put, List.setIfInBounds_toArray, List.set_cons_zero, List.set_cons_succ]
                  refine wpAnyH_take (i := 3) (oi := { dst := some 82, op := Op.indexAddr 64 (Operand.tmp 80) (Operand.tmp 81), type := 0, pos := "ref.go:329", after := #[{ on := 1, ground := Ground.data }, { on := 2, ground := Ground.data }], guard := none }) (v := ?_) rfl (by kernel_rfl) (by kernel_rfl) (by kernel_rfl) (fun _ _ _ h => h) (Or.inl ⟨by rfl, ?_⟩) (by assumption) ?_
                  rotate_left
                  · (intro w hSw; (try dsimp only at hSw); go_simp); (try with_reducible rfl)
                  try simp only [Act.put, List.setIfInBounds_toArray, List.set_cons_zero, List.set_cons_succ]
                  refine wpAnyH_take (i := 4) (oi := { dst := some 83, op := Op.fieldAddr 148 (Operand.tmp 82) 1, type := 0, pos := "ref.go:329", after := #[{ on := 3, ground := Ground.data }], guard := none }) (v := ?_) rfl (by kernel_rfl) (by kernel_rfl) (by kernel_rfl) (fun _ _ _ h => h) (Or.inl ⟨by rfl, ?_⟩) (by assumption) ?_
                  rotate_left
                  · (intro w hSw; (try dsimp only at hSw); go_simp); (try with_reducible rfl)
                  try simp only [Act.put, List.setIfInBounds_toArray, List.set_cons_zero, List.set_cons_succ]
                  refine wpAnyH_take (i := 5) (oi := { dst := some 84, op := Op.load 3 (Operand.tmp 83), type := 3, pos := "ref.go:329", after := #[{ on := 4, ground := Ground.data }], guard := none }) (v := ?_) rfl (by kernel_rfl) (by kernel_rfl) (by kernel_rfl) (fun _ _ _ h => h) (Or.inl ⟨by rfl, ?_⟩) (by assumption) ?_
                  rotate_left
                  · (intro w hSw; (try dsimp only at hSw); go_simp); (try with_reducible rfl)
                  try simp only [Act.put, List.setIfInBounds_toArray, List.set_cons_zero, List.set_cons_succ]
                  refine wpAnyH_take (i := 6) (oi := { dst := some 85, op := Op.move (Operand.tmp 1), type := 64, pos := "ref.go:329", after := #[], guard := none }) (v := ?_) rfl (by kernel_rfl) (by kernel_rfl) (by kernel_rfl) (fun _ _ _ h => h) (Or.inl ⟨by rfl, ?_⟩) (by assumption) ?_
                  rotate_left
                  · (intro w hSw; (try dsimp only at hSw); go_simp); (try with_reducible rfl)
                  try simp only [Act.put, List.setIfInBounds_toArray, List.set_cons_zero, List.set_cons_succ]
                  refine wpAnyH_take (i := 7) (oi := { dst := some 86, op := Op.move (Operand.tmp 10), type := 3, pos := "ref.go:329", after := #[], guard := none }) (v := ?_) rfl (by kernel_rfl) (by kernel_rfl) (by kernel_rfl) (fun _ _ _ h => h) (Or.inl ⟨by rfl, ?_⟩) (by assumption) ?_
                  rotate_left
                  · (intro w hSw; (try dsimp only at hSw); go_simp); (try with_reducible rfl)
                  try simp only [Act.put, List.setIfInBounds_toArray, List.set_cons_zero, List.set_cons_succ]
                  refine wpAnyH_take (i := 8) (oi := { dst := some 87, op := Op.indexAddr 64 (Operand.tmp 85) (Operand.tmp 86), type := 0, pos := "ref.go:329", after := #[{ on := 6, ground := Ground.data }, { on := 7, ground := Ground.data }], guard := none }) (v := ?_) rfl (by kernel_rfl) (by kernel_rfl) (by kernel_rfl) (fun _ _ _ h => h) (Or.inl ⟨by rfl, ?_⟩) (by assumption) ?_
                  rotate_left
                  · (intro w hSw; (try dsimp only at hSw); go_simp); (try with_reducible rfl)
                  try simp only [Act.put, List.setIfInBounds_toArray, List.set_cons_zero, List.set_cons_succ]
                  refine wpAnyH_take (i := 9) (oi := { dst := some 88, op := Op.fieldAddr 148 (Operand.tmp 87) 0, type := 0, pos := "ref.go:329", after := #[{ on := 8, ground := Ground.data }], guard := none }) (v := ?_) rfl (by kernel_rfl) (by kernel_rfl) (by kernel_rfl) (fun _ _ _ h => h) (Or.inl ⟨by rfl, ?_⟩) (by assumption) ?_
                  rotate_left
                  · (intro w hSw; (try dsimp only at hSw); go_simp); (try with_reducible rfl)
                  try simp only [Act.put, List.setIfInBounds_toArray, List.set_cons_zero, List.set_cons_succ]
                  refine wpAnyH_take (i := 10) (oi := { dst := some 89, op := Op.load 3 (Operand.tmp 88), type := 3, pos := "ref.go:329", after := #[{ on := 9, ground := Ground.data }], guard := none }) (v := ?_) rfl (by kernel_rfl) (by kernel_rfl) (by kernel_rfl) (fun _ _ _ h => h) (Or.inl ⟨by rfl, ?_⟩) (by assumption) ?_
                  rotate_left
                  · (intro w hSw; (try dsimp only at hSw); go_simp); (try with_reducible rfl)
                  try simp only [Act.put, List.setIfInBounds_toArray, List.set_cons_zero, List.set_cons_succ]
                  refine wpAnyH_take (i := 11) (oi := { dst := some 90, op := Op.binOp BinOp.sub 3 (Operand.tmp 84) (Operand.tmp 89) 3, type := 3, pos := "ref.go:329", after := #[{ on := 5, ground := Ground.data }, { on := 10, ground := Ground.data }], guard := none }) (v := ?_) rfl (by kernel_rfl) (by kernel_rfl) (by kernel_rfl) (fun _ _ _ h => h) (Or.inl ⟨by rfl, ?_⟩) (by assumption) ?_
                  rotate_left
                  · (intro w hSw; (try dsimp only at hSw); go_simp); (try with_reducible rfl)
                  try simp only [Act.put, List.setIfInBounds_toArray, List.set_cons_zero, List.set_cons_succ]
                  refine wpAnyH_take (i := 12) (oi := { dst := some 91, op := Op.binOp BinOp.add 3 (Operand.tmp 90) (Operand.const (Value.int IntKind.i64 1)) 3, type := 3, pos := "ref.go:329", after := #[{ on := 11, ground := Ground.data }], guard := none }) (v := ?_) rfl (by kernel_rfl) (by kernel_rfl) (by kernel_rfl) (fun _ _ _ h => h) (Or.inl ⟨by rfl, ?_⟩) (by assumption) ?_
                  rotate_left
                  · (intro w hSw; (try dsimp only at hSw); go_simp); (try with_reducible rfl)
                  try simp only [Act.put, List.setIfInBounds_toArray, List.set_cons_zero, List.set_cons_succ]
                  refine wpAnyH_take (i := 13) (oi := { dst := some 92, op := Op.binOp BinOp.mul 3 (Operand.tmp 79) (Operand.tmp 91) 3, type := 3, pos := "ref.go:329", after := #[{ on := 0, ground := Ground.data }, { on := 12, ground := Ground.data }], guard := none }) (v := ?_) rfl (by kernel_rfl) (by kernel_rfl) (by kernel_rfl) (fun _ _ _ h => h) (Or.inl ⟨by rfl, ?_⟩) (by assumption) ?_
                  rotate_left
                  · (intro w hSw; (try dsimp only at hSw); go_simp); (try with_reducible rfl)
                  try simp only [Act.put, List.setIfInBounds_toArray, List.set_cons_zero, List.set_cons_succ]
                  refine wpAnyH_take (i := 14) (oi := { dst := some 9, op := Op.assign (Operand.tmp 92), type := 3, pos := "ref.go:329", after := #[{ on := 13, ground := Ground.data }, { on := 0, ground := Ground.phase }, { on := 1, ground := Ground.phase }, { on := 2, ground := Ground.phase }, { on := 3, ground := Ground.phase }, { on := 4, ground := Ground.phase }, { on := 5, ground := Ground.phase }, { on := 6, ground := Ground.phase }, { on := 7, ground := Ground.phase }, { on := 8, ground := Ground.phase }, { on := 9, ground := Ground.phase }, { on := 10, ground := Ground.phase }, { on := 11, ground := Ground.phase }, { on := 12, ground := Ground.phase }, { on := 13, ground := Ground.phase }], guard := none }) (v := ?_) rfl (by kernel_rfl) (by kernel_rfl) (by kernel_rfl) (fun _ _ _ h => h) (Or.inl ⟨by rfl, ?_⟩) (by assumption) ?_
                  rotate_left
                  · (intro w hSw; (try dsimp only at hSw); go_simp); (try with_reducible rfl)
                  try simp only [Act.put, List.setIfInBounds_toArray, List.set_cons_zero, List.set_cons_succ]
                  refine wpAnyH_done (by kernel_rfl) ?_ _
                  clear hHeld0
                  go_wp2_with fail
                  go_roundw
                  case rel => exact ⟨i + 1, by omega, by go_num, by rw [← HN.out, wrapEq, wrapEq, wrapEq], hbr.drew⟩
                  case measure => simp [intOf]; omega
                · obtain rfl : i = bx.length := by omega
                  replace hB := bthen hB hbr
                  replace iB := iB.carry hbr
                  obtain ⟨wp, rfl⟩ : ∃ v, v = wr := ⟨_, rfl⟩
                  clear hbr
                  by_cases hg : 256 < manyW bx bx.length
                  · have HR := Lib.hid (box2_many HE1.out HL.out HI.out HZ.out hg)
                    generalize manyW bx bx.length = mm at hg ⊢
                    go_wp2_with fail
                    go_ret
                    exact ⟨by rw [HR.out]; rfl, hB⟩
                  · have HR := Lib.hid (box3 HE1.out HL.out HI.out HZ.out hg)
                    have hml : (membersW bx).length ≤ 1000 := by have := HMC.out; omega
                    generalize manyW bx bx.length = mm at hg HMC ⊢
                    go_wp2_with fail
                    refine (MembersR_any _ bx wp (HX.out.carry hB) (fun x hx => by have := HBD.out x hx; omega) (by omega) hml).mono ?_
                    rintro e w5 ⟨⟨u5, rfl, hu5⟩, hl⟩
                    replace hB := bthen hB hl
                    replace iB := iB.carry hl
                    clear hl
                    have hmem : ∀ m ∈ membersW bx, m.length = bx.length := fun m h => membersW_length h
                    generalize membersW bx = L at hml hu5 HR hmem
                    obtain ⟨ua, hua, hla, hra⟩ := hu5
                    obtain ⟨xu, cu, rfl, _, hca⟩ := hua
                    rw [hla] at hca ⊢
                    have HLA := Lib.hid hla
                    have HCA := Lib.hid hca
                    have HRA := Lib.hid hra
                    clear hla hca hra
                    obtain ⟨ws, rfl⟩ : ∃ v, v = w5 := ⟨_, rfl⟩
                    go_wp2_with fail
                    go_loopw [12] (fun v12 wr => ∃ i : Nat, i ≤ L.length ∧ v12 = .int .i64 i ∧ (∀ m ∈ L.take i, (closedW m b c d).any largeB = false) ∧ Below ws.heap.size ws wr) (fun v12 _ => L.length - (intOf v12).toNat)
                    case atStart => exact ⟨0, Nat.zero_le _, rfl, fun m h => by simp at h, Below.refl _ _⟩
                    case round =>
                      obtain ⟨i, hi, rfl, hno, hbr⟩ := hrel
                      have HNO := Lib.hid hno
                      clear hno
                      by_cases hlt : i < L.length
                      · obtain ⟨m, hmk⟩ : ∃ m, L[i]? = some m := ⟨_, List.getElem?_eq_getElem hlt⟩
                        have HM1 := Lib.hid (hmem m (List.mem_of_getElem? hmk))
                        obtain ⟨ux, hux⟩ : ∃ y, ua[i]? = some y := ⟨_, List.getElem?_eq_getElem (by rw [HLA.out]; exact hlt)⟩
                        obtain ⟨ba, oa, hax, hda⟩ := HCA.out (by omega)
                        cases hax
                        have cux := hda i ux hux
                        have ix := HRA.out i ux m hux hmk
                        obtain ⟨pa, pc, rfl, _⟩ := id ix
                        have HIX := Lib.hid ix
                        have HMK := Lib.hid hmk
                        clear hda hux ix hmk
                        have e0 := iB.cell (j := 0) (v := .slice xa a.length ca) rfl
                        have e1 := iB.cell (j := 1) (v := .slice xb b.length cb) rfl
                        have e2 := iB.cell (j := 2) (v := .slice xc c.length cc) rfl
                        have e3 := iB.cell (j := 3) (v := .slice xd d.length cd) rfl
                        have hcl : (closedW m b c d).length ≤ 100000 := by have := closedW_length m b c d; have := HM1.out; omega
                        go_wp2_with fail
                        go_cut [13] from 103 to 109 (fun v13 wn => v13 = .int .i64 (largeE (closedW m b c d)) ∧ Below ws.heap.size ws wn)
                        case first =>
                          refine wp_region_held_drew (S := (fun w' => w'.cell? ⟨w.heap.size, 0, none⟩ = some (.slice xa a.length ca) ∧ w'.cell? ⟨w.heap.size, 1, none⟩ = some (.slice xb b.length cb) ∧ w'.cell? ⟨w.heap.size, 2, none⟩ = some (.slice xc c.length cc) ∧ w'.cell? ⟨w.heap.size, 3, none⟩ = some (.slice xd d.length cd) ∧ w'.cell? ⟨ba, oa + i, none⟩ = some (.slice pa m.length pc))) (by kernel_rfl) ⟨cellb e0 hbr.drew, cellb e1 hbr.drew, cellb e2 hbr.drew, cellb e3 hbr.drew, cellb cux hbr.drew⟩ (fun hHeld0 => ?_)
                          obtain ⟨wzd, hwz⟩ : ∃ v, v = wr.drew := ⟨_, rfl⟩
                          rw [← hwz] at hHeld0 ⊢
                          have hbzd : Below ws.heap.size ws wzd := by rw [hwz]; exact hbr.drew
                          have hlzd : Below wr.heap.size wr wzd := by rw [hwz]; exact (Below.refl _ _).drew
                          clear hwz hlzd
                          refine wpAnyH_take (i := 0) (oi := { dst := some 103, op := Op.load 40 (Operand.tmp 2), type := 40, pos := "ref.go:336", after := #[], guard := none }) (v := ?_) rfl (by kernel_rfl) (by kernel_rfl) (by kernel_rfl) (fun _ _ _ h => h) (Or.inl ⟨by rfl, ?_⟩) (by assumption) ?_
                          rotate_left
                          · (intro w hSw; (try dsimp only at hSw); go_simp); (try with_reducible rfl)
                          try simp only [Act.put, List.setIfInBounds_toArray, List.set_cons_zero, List.set_cons_succ]
                          refine wpAnyH_take (i := 1) (oi := { dst := some 104, op := Op.move (Operand.tmp 11), type := 104, pos := "ref.go:336", after := #[], guard := none }) (v := ?_) rfl (by kernel_rfl) (by kernel_rfl) (by kernel_rfl) (fun _ _ _ h => h) (Or.inl ⟨by rfl, ?_⟩) (by assumption) ?_
                          rotate_left
                          · (intro w hSw; (try dsimp only at hSw); go_simp); (try with_reducible rfl)
                          try simp only [Act.put, List.setIfInBounds_toArray, List.set_cons_zero, List.set_cons_succ]
                          refine wpAnyH_take (i := 2) (oi := { dst := some 105, op := Op.move (Operand.tmp 12), type := 3, pos := "ref.go:336", after := #[], guard := none }) (v := ?_) rfl (by kernel_rfl) (by kernel_rfl) (by kernel_rfl) (fun _ _ _ h => h) (Or.inl ⟨by rfl, ?_⟩) (by assumption) ?_
                          rotate_left
                          · (intro w hSw; (try dsimp only at hSw); go_simp); (try with_reducible rfl)
                          try simp only [Act.put, List.setIfInBounds_toArray, List.set_cons_zero, List.set_cons_succ]
                          refine wpAnyH_take (i := 3) (oi := { dst := some 106, op := Op.indexAddr 104 (Operand.tmp 104) (Operand.tmp 105), type := 0, pos := "ref.go:336", after := #[{ on := 1, ground := Ground.data }, { on := 2, ground := Ground.data }], guard := none }) (v := ?_) rfl (by kernel_rfl) (by kernel_rfl) (by kernel_rfl) (fun _ _ _ h => h) (Or.inl ⟨by rfl, ?_⟩) (by assumption) ?_
                          rotate_left
                          · (intro w hSw; (try dsimp only at hSw); go_simp); (try with_reducible rfl)
                          try simp only [Act.put, List.setIfInBounds_toArray, List.set_cons_zero, List.set_cons_succ]
                          refine wpAnyH_take (i := 4) (oi := { dst := some 107, op := Op.load 22 (Operand.tmp 106), type := 22, pos := "ref.go:336", after := #[{ on := 3, ground := Ground.data }], guard := none }) (v := ?_) rfl (by kernel_rfl) (by kernel_rfl) (by kernel_rfl) (fun _ _ _ h => h) (Or.inl ⟨by rfl, ?_⟩) (by assumption) ?_
                          rotate_left
                          · (intro w hSw; (try dsimp only at hSw); go_simp); (try with_reducible rfl)
                          try simp only [Act.put, List.setIfInBounds_toArray, List.set_cons_zero, List.set_cons_succ]
                          refine wpAnyH_ready (rs := [5]) (by kernel_rfl) (by simp) ?_
                          refine (AllReadyH.cons (o := { dst := some 108, op := Op.call { callee := Callee.value (Operand.func 32), args := #[Operand.tmp 103, Operand.tmp 107], argTypes := #[40, 22] }, type := 22, pos := "ref.go:336", after := #[{ on := 0, ground := Ground.data }, { on := 4, ground := Ground.data }], guard := none }) rfl (fun K hK => ?_) AllReadyH.nil)
                          go_simp
                          refine (ClosedR_any _ _ _ _ _ a b c d m wzd (HA.out.carry (bthen hB hbzd)) (HB.out.carry (bthen hB hbzd)) (HC.out.carry (bthen hB hbzd)) (HD.out.carry (bthen hB hbzd)) (HIX.out.carry hbzd) bb1 c1 d1 (by have := HM1.out; omega) (by omega) (by omega) (by omega) (by have := HM1.out; omega)).mono ?_
                          rintro e wz5 ⟨⟨u9, rfl, hu9⟩, hl⟩
                          (try go_wp2_with fail)
                          have hbz5 := bthen hbzd hl
                          clear hl
                          refine hK.out _ _ ⟨cellb e0 hbz5, cellb e1 hbz5, cellb e2 hbz5, cellb e3 hbz5, cellb cux hbz5⟩ (fun hHeld1 => ?_)
                          clear hK K hHeld0
                          try simp only [Act.put, List.setIfInBounds_toArray, List.set_cons_zero, List.set_cons_succ]
                          refine wpAnyH_ready (rs := [6]) (by kernel_rfl) (by simp) ?_
                          refine (AllReadyH.cons (o := { dst := some 109, op := Op.call { callee := Callee.value (Operand.func 97), args := #[Operand.tmp 108], argTypes := #[22] }, type := 3, pos := "ref.go:336", after := #[{ on := 5, ground := Ground.data }, { on := 5, ground := Ground.chain }], guard := none }) rfl (fun K hK => ?_) AllReadyH.nil)
                          go_simp
                          refine (largeR_any u9 _ wz5 hu9 (by omega)).mono ?_
                          rintro e wz6 ⟨rfl, hww⟩
                          have hl : Below wz5.heap.size wz5 wz6 := by rw [hww]; exact Below.refl _ _
                          clear hww
                          (try go_wp2_with fail)
                          have hbz6 := bthen hbz5 hl
                          have hu9 := hu9.carry hl
                          clear hl
                          refine hK.out _ _ ⟨cellb e0 hbz6, cellb e1 hbz6, cellb e2 hbz6, cellb e3 hbz6, cellb cux hbz6⟩ (fun hHeld2 => ?_)
                          clear hK K hHeld1
                          try simp only [Act.put, List.setIfInBounds_toArray, List.set_cons_zero, List.set_cons_succ]
                          refine wpAnyH_take (i := 7) (oi := { dst := some 13, op := Op.assign (Operand.tmp 109), type := 3, pos := "ref.go:336", after := #[{ on := 6, ground := Ground.data }, { on := 6, ground := Ground.chain }, { on := 0, ground := Ground.phase }, { on := 1, ground := Ground.phase }, { on := 2, ground := Ground.phase }, { on := 3, ground := Ground.phase }, { on := 4, ground := Ground.phase }, { on := 5, ground := Ground.phase }, { on := 6, ground := Ground.phase }], guard := none }) (v := ?_) rfl (by kernel_rfl) (by kernel_rfl) (by kernel_rfl) (fun _ _ _ h => h) (Or.inl ⟨by rfl, ?_⟩) (by assumption) ?_
                          rotate_left
                          · (intro w hSw; (try dsimp only at hSw); go_simp); (try with_reducible rfl)
                          try simp only [Act.put, List.setIfInBounds_toArray, List.set_cons_zero, List.set_cons_succ]
                          refine wpAnyH_done (by kernel_rfl) ?_ _
                          clear hHeld2
                          go_wp2_with fail
                          go_meet
                          exact ⟨rfl, hbz6⟩
                        case rest =>
                          obtain ⟨rfl, hl⟩ := hcut
                          obtain ⟨wq, rfl⟩ : ∃ v, v = wc := ⟨_, rfl⟩
                          clear e0 e1 e2 e3 cux hbr
                          by_cases hg2 : (closedW m b c d).any largeB = true
                          · have HR2 := Lib.hid (show L.any (fun p => (closedW p b c d).any largeB) = true from List.any_eq_true.2 ⟨m, List.mem_of_getElem? HMK.out, hg2⟩)
                            rw [largeE, if_pos hg2]
                            clear hg2
                            go_wp2_with fail
                            go_ret
                            exact ⟨by rw [HR.out, HR2.out]; rfl, bthen hB hl⟩
                          · have HNO2 := Lib.hid (show ∀ y ∈ L.take (i + 1), (closedW y b c d).any largeB = false from fun y hy => by
                              rw [take_snoc HMK.out] at hy
                              rcases List.mem_append.1 hy with h | h
                              · exact HNO.out y h
                              · obtain rfl := List.mem_singleton.1 h
                                simpa using hg2)
                            rw [largeE, if_neg hg2]
                            clear hg2
                            go_wp2_with fail
                            go_roundw
                            case rel => exact ⟨i + 1, by omega, by go_num, HNO2.out, hl⟩
                            case measure => simp [intOf]; omega
                      · obtain rfl : i = L.length := by omega
                        have HR2 := Lib.hid (show L.any (fun p => (closedW p b c d).any largeB) = false by
                          have := HNO.out
                          rw [List.take_length] at this
                          rw [List.any_eq_false]
                          intro y hy
                          rw [this y hy]; simp)
                        go_wp2_with fail
                        go_ret
                        exact ⟨by rw [HR.out, HR2.out]; rfl, bthen hB hbr⟩
    · have HR := Lib.hid (box1_shape HE1.out h2)
      have d2 : ¬ (bx.length : Int) = (a.length : Int) := by omega
      go_wp2_with fail
      go_ret
      exact ⟨by rw [HR.out]; rfl, hB⟩
  · have HR := Lib.hid (box1_loop (bx := bx) h1)
    generalize checkLoopE a b c d = ee at h1 HR ⊢
    go_wp2_with fail
    go_ret
    exact ⟨by rw [HR.out]; rfl, hB⟩


end Go.Proofs.YtnlmaildmeihgaaGreatDoor

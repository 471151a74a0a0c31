/- The law LoopPolys. -/
import Derived.Test.YtnlmaildmeihgaaGreatDoorRefV
import Derived.Test.YtnlmaildmeihgaaGreatDoorAwakeE
namespace Go.Proofs.YtnlmaildmeihgaaGreatDoor
open Go.RowKit

theorem gaussEq (a b : Int) (w : World) : Sem.run Tryz.prog (binOp BinOp.eql 59 (.agg #[.int .i64 a, .int .i64 b]) (.agg #[.int .i64 a, .int .i64 b])) w = .ok (.bool true) w := by
  go_simp

theorem atW_zero (p : List Int) (h1 : 1 ≤ p.length) (hi : InI p) : atW p 0 0 = (p[0]?.getD 0, 0) := by
  unfold atW
  obtain ⟨n, hn⟩ : ∃ n, p.length = n + 1 := ⟨p.length - 1, by omega⟩
  rw [hn, upto_succ, atStep_snoc]
  have hb : (bwd p n).2 = p[0]?.getD 0 := by simp only [bwd, hn]; congr 2; omega
  have hr := hi.get 0
  simp only [atStep, hb, Int.mul_zero]
  have : wrap64 0 = 0 := by unfold wrap64; omega
  rw [this, show (0 : Int) - 0 = 0 from rfl, this, Int.zero_add, Int.add_zero, this, show wrap64 (p[0]?.getD 0) = p[0]?.getD 0 by unfold wrap64; omega]

theorem valueR_at {p : List Int} {zr zi : Int} (h : valueE p zr zi = 0) : valueR p zr zi = atW p zr zi := by
  rw [valueR, if_neg (by rw [h]; simp)]
  split
  · rename_i hz
    obtain ⟨rfl, rfl⟩ := hz
    obtain ⟨hc, _⟩ := firstE_cons_ok h
    exact (atW_zero p (checkPolyE_ok hc).1 (InI.poly hc)).symm
  · rfl
theorem value_poly {p : List Int} {zr zi : Int} (h : valueE p zr zi = 0) : checkPolyE p = 0 := (firstE_cons_ok h).1

set_option maxRecDepth 100000 in
set_option maxHeartbeats 8000000 in
theorem ply_law (va vb : Value) (a b : List Int) (zr zi : Int) (w : World) (hq : Quarters w) (hpw : Pows w) (ha : Ints w va a) (hb : Ints w vb b) :
    Calls Tryz.prog 13 #[va, vb, .agg #[.int .i64 zr, .int .i64 zi]] w fun e w' => e = .returned (.bool true) ∧ Below w.heap.size w w' := by
  have HA := Lib.hid ha
  have HB := Lib.hid hb
  obtain ⟨aa, ca, rfl, _⟩ := ha
  obtain ⟨ab, cb, rfl, _⟩ := hb
  by_cases c1 : 7 < a.length
  · have d1 : (7 : Int) < (a.length : Int) := by omega
    go_enter Tryz.func13, Tryz.ntmps13
    go_wp2_with fail
    obtain ⟨W1, hW1⟩ : ∃ v, v = World.alloc w (Obj.cells #[.int .i64 zr, .int .i64 zi] 59) := ⟨_, rfl⟩
    have kW1 : Below w.heap.size w W1 := by rw [hW1]; exact below_new _ _
    have iW1 : Blk W1 (w.heap.size) 59 [.int .i64 zr, .int .i64 zi] := by rw [hW1]; exact Blk.new _ _ _
    have sW1 : W1.heap.size = w.heap.size + 1 := by rw [hW1]; simp
    rw [← hW1]
    clear hW1
    clear sW1
    refine (awake_any W1 (hq.below kW1 hq.size) (hpw.below kW1)).mono ?_
    rintro e wa ⟨rfl, hl⟩
    go_wp2
    go_ret
    exact ⟨rfl, bthen kW1 hl⟩
  · have d1 : ¬ (7 : Int) < (a.length : Int) := by omega
    by_cases c2 : 7 < b.length
    · have d2 : (7 : Int) < (b.length : Int) := by omega
      go_enter Tryz.func13, Tryz.ntmps13
      go_wp2_with fail
      obtain ⟨W1, hW1⟩ : ∃ v, v = World.alloc w (Obj.cells #[.int .i64 zr, .int .i64 zi] 59) := ⟨_, rfl⟩
      have kW1 : Below w.heap.size w W1 := by rw [hW1]; exact below_new _ _
      have iW1 : Blk W1 (w.heap.size) 59 [.int .i64 zr, .int .i64 zi] := by rw [hW1]; exact Blk.new _ _ _
      have sW1 : W1.heap.size = w.heap.size + 1 := by rw [hW1]; simp
      rw [← hW1]
      clear hW1
      clear sW1
      refine (awake_any W1 (hq.below kW1 hq.size) (hpw.below kW1)).mono ?_
      rintro e wa ⟨rfl, hl⟩
      go_wp2
      go_ret
      exact ⟨rfl, bthen kW1 hl⟩
    · have d2 : ¬ (7 : Int) < (b.length : Int) := by omega
      go_enter Tryz.func13, Tryz.ntmps13
      go_upto_region 3 with fail
      obtain ⟨W1, hW1⟩ : ∃ v, v = World.alloc w (Obj.cells #[.int .i64 zr, .int .i64 zi] 59) := ⟨_, rfl⟩
      have kW1 : Below w.heap.size w W1 := by rw [hW1]; exact below_new _ _
      have iW1 : Blk W1 (w.heap.size) 59 [.int .i64 zr, .int .i64 zi] := by rw [hW1]; exact Blk.new _ _ _
      have sW1 : W1.heap.size = w.heap.size + 1 := by rw [hW1]; simp
      rw [← hW1]
      clear hW1
      clear sW1
      have hB := kW1
      have iB := iW1
      clear kW1 iW1
      go_wp2_with fail
      refine (polyL_any _ a W1 (HA.out.carry hB) (by omega)).mono ?_
      rintro e w1 ⟨⟨u1, rfl, hu1⟩, hl⟩
      replace hB := bthen hB hl
      replace iB := iB.carry hl
      clear hl
      go_wp2_with fail
      refine (Degree_any u1 a w1 hu1 (by omega)).mono ?_
      rintro e w2 ⟨rfl, hl⟩
      replace hB := bthen hB hl
      replace iB := iB.carry hl
      clear hl hu1
      obtain ⟨deg, hdeg⟩ : ∃ x, x = degreeR a := ⟨_, rfl⟩
      rw [← hdeg]
      obtain ⟨ce, hce⟩ : ∃ x, x = checkPolyE a := ⟨_, rfl⟩
      rw [← hce]
      obtain ⟨ve, hve⟩ : ∃ x, x = valueE a zr zi := ⟨_, rfl⟩
      obtain ⟨⟨vr, vi⟩, hvr⟩ : ∃ x, x = valueR a zr zi := ⟨_, rfl⟩
      have HVE := Lib.hid hve
      have HVR := Lib.hid hvr
      have HCE := Lib.hid hce
      have HDG := Lib.hid hdeg
      clear hve hvr hce hdeg
      go_upto_region 4 with fail
      have e0 := iB.cell (j := 0) (v := .int .i64 zr) rfl
      have e1 := iB.cell (j := 1) (v := .int .i64 zi) rfl
      go_cut [9, 10] from 38 to 44 (fun v9 v10 wn => ∃ B, v9 = .pointer (some ⟨B, 0, none⟩) ∧ Blk wn B 59 [.int .i64 vr, .int .i64 vi] ∧ v10 = .int .i64 ve ∧ Below w2.heap.size w2 wn)
      case first =>
        refine wp_region_held_drew (S := (fun w' => w'.cell? ⟨w.heap.size, 0, none⟩ = some (.int .i64 zr) ∧ w'.cell? ⟨w.heap.size, 1, none⟩ = some (.int .i64 zi))) (by kernel_rfl) ⟨cellb e0 (Below.refl _ _).drew, cellb e1 (Below.refl _ _).drew⟩ (fun hHeld0 => ?_)
        obtain ⟨wzd, hwz⟩ : ∃ v, v = w2.drew := ⟨_, rfl⟩
        rw [← hwz] at hHeld0 ⊢
        have hbzd : Below w2.heap.size w2 wzd := by rw [hwz]; exact (Below.refl _ _).drew
        have hlzd : Below w2.heap.size w2 wzd := by rw [hwz]; exact (Below.refl _ _).drew
        clear hwz hlzd
        refine wpAnyH_take (i := 0) (oi := { dst := some 39, op := Op.move (Operand.tmp 0), type := 22, pos := "law.go:86", after := #[], guard := none }) (v := ?_) rfl (by kernel_rfl) (by kernel_rfl) (by kernel_rfl) (fun _ _ _ h => h) (Or.inl ⟨by rfl, ?_⟩) (by assumption) ?_
        rotate_left
        · (intro w hSw; (try dsimp only at hSw); go_simp); (try with_reducible rfl)
        try simp only [Act.put, List.setIfInBounds_toArray, List.set_cons_zero, List.set_cons_succ]
        refine wpAnyH_take (i := 2) (oi := { dst := some 41, op := Op.load 59 (Operand.tmp 5), type := 59, pos := "law.go:86", after := #[], guard := none }) (v := ?_) rfl (by kernel_rfl) (by kernel_rfl) (by kernel_rfl) (fun _ _ _ h => h) (Or.inl ⟨by rfl, ?_⟩) (by assumption) ?_
        rotate_left
        · (intro w hSw; (try dsimp only at hSw); go_simp); (try with_reducible rfl)
        try simp only [Act.put, List.setIfInBounds_toArray, List.set_cons_zero, List.set_cons_succ]
        refine wpAnyH_ready (rs := [1, 7]) (by kernel_rfl) (by simp) ?_
        refine (AllReadyH.cons (o := { dst := some 40, op := Op.call { callee := Callee.value (Operand.func 20), args := #[Operand.tmp 39], argTypes := #[22] }, type := 26, pos := "law.go:86", after := #[{ on := 0, ground := Ground.data }], guard := none }) rfl (fun K hK => ?_) (AllReadyH.cons (o := { dst := some 9, op := Op.alloc 59, type := 0, pos := "law.go:86", after := #[], guard := none }) rfl (fun K hK => ?_) AllReadyH.nil))
        · go_simp
          refine (polyL_any _ a wzd (HA.out.carry (bthen hB hbzd)) (by omega)).mono ?_
          rintro e wz1 ⟨⟨u1, rfl, hu1⟩, hl⟩
          (try go_wp2_with fail)
          have hbz1 := bthen hbzd hl
          clear hl
          refine hK.out _ _ ⟨cellb e0 hbz1, cellb e1 hbz1⟩ (fun hHeld1 => ?_)
          clear hK K hHeld0
          try simp only [Act.put, List.setIfInBounds_toArray, List.set_cons_zero, List.set_cons_succ]
          refine wpAnyH_ready (rs := [3, 7]) (by kernel_rfl) (by simp) ?_
          refine (AllReadyH.cons (o := { dst := some 42, op := Op.call { callee := Callee.value (Operand.func 61), args := #[Operand.tmp 40, Operand.tmp 41], argTypes := #[26, 59] }, type := 106, pos := "law.go:86", after := #[{ on := 1, ground := Ground.data }, { on := 2, ground := Ground.data }, { on := 1, ground := Ground.chain }], guard := none }) rfl (fun K hK => ?_) (AllReadyH.cons (o := { dst := some 9, op := Op.alloc 59, type := 0, pos := "law.go:86", after := #[], guard := none }) rfl (fun K hK => ?_) AllReadyH.nil))
          · go_simp
            have tv := Value_any u1 a zr zi wz1 hu1 (by omega)
            rw [← HVE.out, ← HVR.out] at tv
            refine tv.mono ?_
            clear tv
            rintro e wz3 ⟨rfl, hl⟩
            (try go_wp2_with fail)
            have hbz3 := bthen hbz1 hl
            have hu1 := hu1.carry hl
            clear hl
            refine hK.out _ _ ⟨cellb e0 hbz3, cellb e1 hbz3⟩ (fun hHeld2 => ?_)
            clear hK K hHeld1
            try simp only [Act.put, List.setIfInBounds_toArray, List.set_cons_zero, List.set_cons_succ]
            refine wpAnyH_take (i := 4) (oi := { dst := some 38, op := Op.move (Operand.tmp 42), type := 106, pos := "law.go:86", after := #[{ on := 3, ground := Ground.data }], guard := none }) (v := ?_) rfl (by kernel_rfl) (by kernel_rfl) (by kernel_rfl) (fun _ _ _ h => h) (Or.inl ⟨by rfl, ?_⟩) (by assumption) ?_
            rotate_left
            · (intro w hSw; (try dsimp only at hSw); go_simp); (try with_reducible rfl)
            try simp only [Act.put, List.setIfInBounds_toArray, List.set_cons_zero, List.set_cons_succ]
            refine wpAnyH_take (i := 5) (oi := { dst := some 43, op := Op.extract (Operand.tmp 38) 0, type := 59, pos := "law.go:86", after := #[{ on := 4, ground := Ground.data }], guard := none }) (v := ?_) rfl (by kernel_rfl) (by kernel_rfl) (by kernel_rfl) (fun _ _ _ h => h) (Or.inl ⟨by rfl, ?_⟩) (by assumption) ?_
            rotate_left
            · (intro w hSw; (try dsimp only at hSw); go_simp); (try with_reducible rfl)
            try simp only [Act.put, List.setIfInBounds_toArray, List.set_cons_zero, List.set_cons_succ]
            refine wpAnyH_take (i := 6) (oi := { dst := some 44, op := Op.extract (Operand.tmp 38) 1, type := 27, pos := "law.go:86", after := #[{ on := 4, ground := Ground.data }, { on := 8, ground := Ground.gcOnly Departure.lateStores }], guard := none }) (v := ?_) rfl (by kernel_rfl) (by kernel_rfl) (by kernel_rfl) (fun _ _ _ h => h) (Or.inl ⟨by rfl, ?_⟩) (by assumption) ?_
            rotate_left
            · (intro w hSw; (try dsimp only at hSw); go_simp); (try with_reducible rfl)
            try simp only [Act.put, List.setIfInBounds_toArray, List.set_cons_zero, List.set_cons_succ]
            refine wpAnyH_ready (rs := [7]) (by kernel_rfl) (by simp) ?_
            refine (AllReadyH.cons (o := { dst := some 9, op := Op.alloc 59, type := 0, pos := "law.go:86", after := #[], guard := none }) rfl (fun K hK => ?_) AllReadyH.nil)
            go_simp
            obtain ⟨wz7, hwz⟩ : ∃ v, v = wz3.alloc (Obj.cells #[.int .i64 0, .int .i64 0] 59) := ⟨_, rfl⟩
            rw [← hwz]
            have hl : Below wz3.heap.size wz3 wz7 := by rw [hwz]; exact below_new _ _
            have hbz7 := bthen hbz3 hl
            have bx : Blk wz7 wz3.heap.size 59 [.int .i64 0, .int .i64 0] := by rw [hwz]; exact Blk.new _ _ _
            have hBs : w2.heap.size ≤ wz3.heap.size := (hbz3).size
            generalize wz3.heap.size = B at bx hBs ⊢
            clear hwz
            have hu1 := hu1.carry hl
            clear hl
            refine hK.out _ _ ⟨cellb e0 hbz7, cellb e1 hbz7⟩ (fun hHeld3 => ?_)
            clear hK K hHeld2
            try simp only [Act.put, List.setIfInBounds_toArray, List.set_cons_zero, List.set_cons_succ]
            refine wpAnyH_ready (rs := [8]) (by kernel_rfl) (by simp) ?_
            refine (AllReadyH.cons (o := { dst := none, op := Op.store 59 (Operand.tmp 9) (Operand.tmp 43), type := 0, pos := "law.go:86", after := #[{ on := 7, ground := Ground.data }, { on := 5, ground := Ground.data }, { on := 3, ground := Ground.chain }, { on := 0, ground := Ground.phase }, { on := 1, ground := Ground.phase }, { on := 2, ground := Ground.phase }, { on := 3, ground := Ground.phase }, { on := 4, ground := Ground.phase }, { on := 5, ground := Ground.phase }, { on := 6, ground := Ground.textOnly Departure.lateStores }, { on := 7, ground := Ground.phase }], guard := none }) rfl (fun K hK => ?_) AllReadyH.nil)
            have q0 := bx.cell (j := 0) (v := .int .i64 0) rfl
            have q1 := bx.cell (j := 1) (v := .int .i64 0) rfl
            have f0 := bx.frozen 0
            have f1 := bx.frozen 1
            go_simp
            obtain ⟨wz8, hwz⟩ : ∃ v, v = (wz7.setCell ⟨B, 0, none⟩ (.int .i64 vr)).setCell ⟨B, 1, none⟩ (.int .i64 vi) := ⟨_, rfl⟩
            rw [← hwz]
            have hbz8 : Below w2.heap.size w2 wz8 := by rw [hwz]; exact (hbz7.setCell hBs _).setCell hBs _
            have bx := bx.set2 (.int .i64 vr) (.int .i64 vi)
            rw [← hwz] at bx
            clear q0 q1 f0 f1
            clear hwz
            refine hK.out _ _ ⟨cellb e0 hbz8, cellb e1 hbz8⟩ (fun hHeld4 => ?_)
            clear hK K hHeld3
            try simp only [Act.put, List.setIfInBounds_toArray, List.set_cons_zero, List.set_cons_succ]
            refine wpAnyH_take (i := 9) (oi := { dst := some 10, op := Op.assign (Operand.tmp 44), type := 27, pos := "law.go:86", after := #[{ on := 6, ground := Ground.data }, { on := 8, ground := Ground.chain }, { on := 0, ground := Ground.phase }, { on := 1, ground := Ground.phase }, { on := 2, ground := Ground.phase }, { on := 3, ground := Ground.phase }, { on := 4, ground := Ground.phase }, { on := 5, ground := Ground.phase }, { on := 6, ground := Ground.phase }, { on := 7, ground := Ground.phase }, { on := 8, ground := Ground.phase }], guard := none }) (v := ?_) rfl (by kernel_rfl) (by kernel_rfl) (by kernel_rfl) (fun _ _ _ h => h) (Or.inl ⟨by rfl, ?_⟩) (by assumption) ?_
            rotate_left
            · (intro w hSw; (try dsimp only at hSw); go_simp); (try with_reducible rfl)
            try simp only [Act.put, List.setIfInBounds_toArray, List.set_cons_zero, List.set_cons_succ]
            refine wpAnyH_done (by kernel_rfl) ?_ _
            clear hHeld4
            go_wp2_with fail
            go_meet
            exact ⟨B, rfl, bx, rfl, hbz8⟩
          · go_simp
            obtain ⟨wz7, hwz⟩ : ∃ v, v = wz1.alloc (Obj.cells #[.int .i64 0, .int .i64 0] 59) := ⟨_, rfl⟩
            rw [← hwz]
            have hl : Below wz1.heap.size wz1 wz7 := by rw [hwz]; exact below_new _ _
            have hbz7 := bthen hbz1 hl
            have bx : Blk wz7 wz1.heap.size 59 [.int .i64 0, .int .i64 0] := by rw [hwz]; exact Blk.new _ _ _
            have hBs : w2.heap.size ≤ wz1.heap.size := (hbz1).size
            generalize wz1.heap.size = B at bx hBs ⊢
            clear hwz
            have hu1 := hu1.carry hl
            clear hl
            refine hK.out _ _ ⟨cellb e0 hbz7, cellb e1 hbz7⟩ (fun hHeld2 => ?_)
            clear hK K hHeld1
            try simp only [Act.put, List.setIfInBounds_toArray, List.set_cons_zero, List.set_cons_succ]
            refine wpAnyH_ready (rs := [3]) (by kernel_rfl) (by simp) ?_
            refine (AllReadyH.cons (o := { dst := some 42, op := Op.call { callee := Callee.value (Operand.func 61), args := #[Operand.tmp 40, Operand.tmp 41], argTypes := #[26, 59] }, type := 106, pos := "law.go:86", after := #[{ on := 1, ground := Ground.data }, { on := 2, ground := Ground.data }, { on := 1, ground := Ground.chain }], guard := none }) rfl (fun K hK => ?_) AllReadyH.nil)
            go_simp
            have tv := Value_any u1 a zr zi wz7 hu1 (by omega)
            rw [← HVE.out, ← HVR.out] at tv
            refine tv.mono ?_
            clear tv
            rintro e wz3 ⟨rfl, hl⟩
            (try go_wp2_with fail)
            have hbz3 := bthen hbz7 hl
            have hu1 := hu1.carry hl
            have bx := bx.carry hl
            clear hl
            refine hK.out _ _ ⟨cellb e0 hbz3, cellb e1 hbz3⟩ (fun hHeld3 => ?_)
            clear hK K hHeld2
            try simp only [Act.put, List.setIfInBounds_toArray, List.set_cons_zero, List.set_cons_succ]
            refine wpAnyH_take (i := 4) (oi := { dst := some 38, op := Op.move (Operand.tmp 42), type := 106, pos := "law.go:86", after := #[{ on := 3, ground := Ground.data }], guard := none }) (v := ?_) rfl (by kernel_rfl) (by kernel_rfl) (by kernel_rfl) (fun _ _ _ h => h) (Or.inl ⟨by rfl, ?_⟩) (by assumption) ?_
            rotate_left
            · (intro w hSw; (try dsimp only at hSw); go_simp); (try with_reducible rfl)
            try simp only [Act.put, List.setIfInBounds_toArray, List.set_cons_zero, List.set_cons_succ]
            refine wpAnyH_take (i := 5) (oi := { dst := some 43, op := Op.extract (Operand.tmp 38) 0, type := 59, pos := "law.go:86", after := #[{ on := 4, ground := Ground.data }], guard := none }) (v := ?_) rfl (by kernel_rfl) (by kernel_rfl) (by kernel_rfl) (fun _ _ _ h => h) (Or.inl ⟨by rfl, ?_⟩) (by assumption) ?_
            rotate_left
            · (intro w hSw; (try dsimp only at hSw); go_simp); (try with_reducible rfl)
            try simp only [Act.put, List.setIfInBounds_toArray, List.set_cons_zero, List.set_cons_succ]
            refine wpAnyH_take (i := 6) (oi := { dst := some 44, op := Op.extract (Operand.tmp 38) 1, type := 27, pos := "law.go:86", after := #[{ on := 4, ground := Ground.data }, { on := 8, ground := Ground.gcOnly Departure.lateStores }], guard := none }) (v := ?_) rfl (by kernel_rfl) (by kernel_rfl) (by kernel_rfl) (fun _ _ _ h => h) (Or.inl ⟨by rfl, ?_⟩) (by assumption) ?_
            rotate_left
            · (intro w hSw; (try dsimp only at hSw); go_simp); (try with_reducible rfl)
            try simp only [Act.put, List.setIfInBounds_toArray, List.set_cons_zero, List.set_cons_succ]
            refine wpAnyH_ready (rs := [8]) (by kernel_rfl) (by simp) ?_
            refine (AllReadyH.cons (o := { dst := none, op := Op.store 59 (Operand.tmp 9) (Operand.tmp 43), type := 0, pos := "law.go:86", after := #[{ on := 7, ground := Ground.data }, { on := 5, ground := Ground.data }, { on := 3, ground := Ground.chain }, { on := 0, ground := Ground.phase }, { on := 1, ground := Ground.phase }, { on := 2, ground := Ground.phase }, { on := 3, ground := Ground.phase }, { on := 4, ground := Ground.phase }, { on := 5, ground := Ground.phase }, { on := 6, ground := Ground.textOnly Departure.lateStores }, { on := 7, ground := Ground.phase }], guard := none }) rfl (fun K hK => ?_) AllReadyH.nil)
            have q0 := bx.cell (j := 0) (v := .int .i64 0) rfl
            have q1 := bx.cell (j := 1) (v := .int .i64 0) rfl
            have f0 := bx.frozen 0
            have f1 := bx.frozen 1
            go_simp
            obtain ⟨wz8, hwz⟩ : ∃ v, v = (wz3.setCell ⟨B, 0, none⟩ (.int .i64 vr)).setCell ⟨B, 1, none⟩ (.int .i64 vi) := ⟨_, rfl⟩
            rw [← hwz]
            have hbz8 : Below w2.heap.size w2 wz8 := by rw [hwz]; exact (hbz3.setCell hBs _).setCell hBs _
            have bx := bx.set2 (.int .i64 vr) (.int .i64 vi)
            rw [← hwz] at bx
            clear q0 q1 f0 f1
            clear hwz
            refine hK.out _ _ ⟨cellb e0 hbz8, cellb e1 hbz8⟩ (fun hHeld4 => ?_)
            clear hK K hHeld3
            try simp only [Act.put, List.setIfInBounds_toArray, List.set_cons_zero, List.set_cons_succ]
            refine wpAnyH_take (i := 9) (oi := { dst := some 10, op := Op.assign (Operand.tmp 44), type := 27, pos := "law.go:86", after := #[{ on := 6, ground := Ground.data }, { on := 8, ground := Ground.chain }, { on := 0, ground := Ground.phase }, { on := 1, ground := Ground.phase }, { on := 2, ground := Ground.phase }, { on := 3, ground := Ground.phase }, { on := 4, ground := Ground.phase }, { on := 5, ground := Ground.phase }, { on := 6, ground := Ground.phase }, { on := 7, ground := Ground.phase }, { on := 8, ground := Ground.phase }], guard := none }) (v := ?_) rfl (by kernel_rfl) (by kernel_rfl) (by kernel_rfl) (fun _ _ _ h => h) (Or.inl ⟨by rfl, ?_⟩) (by assumption) ?_
            rotate_left
            · (intro w hSw; (try dsimp only at hSw); go_simp); (try with_reducible rfl)
            try simp only [Act.put, List.setIfInBounds_toArray, List.set_cons_zero, List.set_cons_succ]
            refine wpAnyH_done (by kernel_rfl) ?_ _
            clear hHeld4
            go_wp2_with fail
            go_meet
            exact ⟨B, rfl, bx, rfl, hbz8⟩
        · go_simp
          obtain ⟨wz7, hwz⟩ : ∃ v, v = wzd.alloc (Obj.cells #[.int .i64 0, .int .i64 0] 59) := ⟨_, rfl⟩
          rw [← hwz]
          have hl : Below wzd.heap.size wzd wz7 := by rw [hwz]; exact below_new _ _
          have hbz7 := bthen hbzd hl
          have bx : Blk wz7 wzd.heap.size 59 [.int .i64 0, .int .i64 0] := by rw [hwz]; exact Blk.new _ _ _
          have hBs : w2.heap.size ≤ wzd.heap.size := (hbzd).size
          generalize wzd.heap.size = B at bx hBs ⊢
          clear hwz
          clear hl
          refine hK.out _ _ ⟨cellb e0 hbz7, cellb e1 hbz7⟩ (fun hHeld1 => ?_)
          clear hK K hHeld0
          try simp only [Act.put, List.setIfInBounds_toArray, List.set_cons_zero, List.set_cons_succ]
          refine wpAnyH_ready (rs := [1]) (by kernel_rfl) (by simp) ?_
          refine (AllReadyH.cons (o := { dst := some 40, op := Op.call { callee := Callee.value (Operand.func 20), args := #[Operand.tmp 39], argTypes := #[22] }, type := 26, pos := "law.go:86", after := #[{ on := 0, ground := Ground.data }], guard := none }) rfl (fun K hK => ?_) AllReadyH.nil)
          go_simp
          refine (polyL_any _ a wz7 (HA.out.carry (bthen hB hbz7)) (by omega)).mono ?_
          rintro e wz1 ⟨⟨u1, rfl, hu1⟩, hl⟩
          (try go_wp2_with fail)
          have hbz1 := bthen hbz7 hl
          have bx := bx.carry hl
          clear hl
          refine hK.out _ _ ⟨cellb e0 hbz1, cellb e1 hbz1⟩ (fun hHeld2 => ?_)
          clear hK K hHeld1
          try simp only [Act.put, List.setIfInBounds_toArray, List.set_cons_zero, List.set_cons_succ]
          refine wpAnyH_ready (rs := [3]) (by kernel_rfl) (by simp) ?_
          refine (AllReadyH.cons (o := { dst := some 42, op := Op.call { callee := Callee.value (Operand.func 61), args := #[Operand.tmp 40, Operand.tmp 41], argTypes := #[26, 59] }, type := 106, pos := "law.go:86", after := #[{ on := 1, ground := Ground.data }, { on := 2, ground := Ground.data }, { on := 1, ground := Ground.chain }], guard := none }) rfl (fun K hK => ?_) AllReadyH.nil)
          go_simp
          have tv := Value_any u1 a zr zi wz1 hu1 (by omega)
          rw [← HVE.out, ← HVR.out] at tv
          refine tv.mono ?_
          clear tv
          rintro e wz3 ⟨rfl, hl⟩
          (try go_wp2_with fail)
          have hbz3 := bthen hbz1 hl
          have bx := bx.carry hl
          have hu1 := hu1.carry hl
          clear hl
          refine hK.out _ _ ⟨cellb e0 hbz3, cellb e1 hbz3⟩ (fun hHeld3 => ?_)
          clear hK K hHeld2
          try simp only [Act.put, List.setIfInBounds_toArray, List.set_cons_zero, List.set_cons_succ]
          refine wpAnyH_take (i := 4) (oi := { dst := some 38, op := Op.move (Operand.tmp 42), type := 106, pos := "law.go:86", after := #[{ on := 3, ground := Ground.data }], guard := none }) (v := ?_) rfl (by kernel_rfl) (by kernel_rfl) (by kernel_rfl) (fun _ _ _ h => h) (Or.inl ⟨by rfl, ?_⟩) (by assumption) ?_
          rotate_left
          · (intro w hSw; (try dsimp only at hSw); go_simp); (try with_reducible rfl)
          try simp only [Act.put, List.setIfInBounds_toArray, List.set_cons_zero, List.set_cons_succ]
          refine wpAnyH_take (i := 5) (oi := { dst := some 43, op := Op.extract (Operand.tmp 38) 0, type := 59, pos := "law.go:86", after := #[{ on := 4, ground := Ground.data }], guard := none }) (v := ?_) rfl (by kernel_rfl) (by kernel_rfl) (by kernel_rfl) (fun _ _ _ h => h) (Or.inl ⟨by rfl, ?_⟩) (by assumption) ?_
          rotate_left
          · (intro w hSw; (try dsimp only at hSw); go_simp); (try with_reducible rfl)
          try simp only [Act.put, List.setIfInBounds_toArray, List.set_cons_zero, List.set_cons_succ]
          refine wpAnyH_take (i := 6) (oi := { dst := some 44, op := Op.extract (Operand.tmp 38) 1, type := 27, pos := "law.go:86", after := #[{ on := 4, ground := Ground.data }, { on := 8, ground := Ground.gcOnly Departure.lateStores }], guard := none }) (v := ?_) rfl (by kernel_rfl) (by kernel_rfl) (by kernel_rfl) (fun _ _ _ h => h) (Or.inl ⟨by rfl, ?_⟩) (by assumption) ?_
          rotate_left
          · (intro w hSw; (try dsimp only at hSw); go_simp); (try with_reducible rfl)
          try simp only [Act.put, List.setIfInBounds_toArray, List.set_cons_zero, List.set_cons_succ]
          refine wpAnyH_ready (rs := [8]) (by kernel_rfl) (by simp) ?_
          refine (AllReadyH.cons (o := { dst := none, op := Op.store 59 (Operand.tmp 9) (Operand.tmp 43), type := 0, pos := "law.go:86", after := #[{ on := 7, ground := Ground.data }, { on := 5, ground := Ground.data }, { on := 3, ground := Ground.chain }, { on := 0, ground := Ground.phase }, { on := 1, ground := Ground.phase }, { on := 2, ground := Ground.phase }, { on := 3, ground := Ground.phase }, { on := 4, ground := Ground.phase }, { on := 5, ground := Ground.phase }, { on := 6, ground := Ground.textOnly Departure.lateStores }, { on := 7, ground := Ground.phase }], guard := none }) rfl (fun K hK => ?_) AllReadyH.nil)
          have q0 := bx.cell (j := 0) (v := .int .i64 0) rfl
          have q1 := bx.cell (j := 1) (v := .int .i64 0) rfl
          have f0 := bx.frozen 0
          have f1 := bx.frozen 1
          go_simp
          obtain ⟨wz8, hwz⟩ : ∃ v, v = (wz3.setCell ⟨B, 0, none⟩ (.int .i64 vr)).setCell ⟨B, 1, none⟩ (.int .i64 vi) := ⟨_, rfl⟩
          rw [← hwz]
          have hbz8 : Below w2.heap.size w2 wz8 := by rw [hwz]; exact (hbz3.setCell hBs _).setCell hBs _
          have bx := bx.set2 (.int .i64 vr) (.int .i64 vi)
          rw [← hwz] at bx
          clear q0 q1 f0 f1
          clear hwz
          refine hK.out _ _ ⟨cellb e0 hbz8, cellb e1 hbz8⟩ (fun hHeld4 => ?_)
          clear hK K hHeld3
          try simp only [Act.put, List.setIfInBounds_toArray, List.set_cons_zero, List.set_cons_succ]
          refine wpAnyH_take (i := 9) (oi := { dst := some 10, op := Op.assign (Operand.tmp 44), type := 27, pos := "law.go:86", after := #[{ on := 6, ground := Ground.data }, { on := 8, ground := Ground.chain }, { on := 0, ground := Ground.phase }, { on := 1, ground := Ground.phase }, { on := 2, ground := Ground.phase }, { on := 3, ground := Ground.phase }, { on := 4, ground := Ground.phase }, { on := 5, ground := Ground.phase }, { on := 6, ground := Ground.phase }, { on := 7, ground := Ground.phase }, { on := 8, ground := Ground.phase }], guard := none }) (v := ?_) rfl (by kernel_rfl) (by kernel_rfl) (by kernel_rfl) (fun _ _ _ h => h) (Or.inl ⟨by rfl, ?_⟩) (by assumption) ?_
          rotate_left
          · (intro w hSw; (try dsimp only at hSw); go_simp); (try with_reducible rfl)
          try simp only [Act.put, List.setIfInBounds_toArray, List.set_cons_zero, List.set_cons_succ]
          refine wpAnyH_done (by kernel_rfl) ?_ _
          clear hHeld4
          go_wp2_with fail
          go_meet
          exact ⟨B, rfl, bx, rfl, hbz8⟩
      case rest =>
        obtain ⟨B9, rfl, i9, rfl, hl⟩ := hcut
        obtain ⟨w3, rfl⟩ : ∃ w3, w3 = wc := ⟨_, rfl⟩
        clear e0 e1
        replace hB := bthen hB hl
        replace iB := iB.carry hl
        clear hl
        go_wp2_with fail
        refine (polyL_any _ a w3 (HA.out.carry hB) (by omega)).mono ?_
        rintro e w4 ⟨⟨u2, rfl, hu2⟩, hl⟩
        replace hB := bthen hB hl
        replace iB := iB.carry hl
        replace i9 := i9.carry hl
        clear hl
        go_wp2_with fail
        refine (polyL_any _ b w4 (HB.out.carry hB) (by omega)).mono ?_
        rintro e w5 ⟨⟨u3, rfl, hu3⟩, hl⟩
        replace hB := bthen hB hl
        replace iB := iB.carry hl
        replace i9 := i9.carry hl
        replace hu2 := hu2.carry hl
        clear hl
        go_wp2_with fail
        refine (Sum_any u2 u3 a b w5 hu2 hu3 (by omega) (by omega)).mono ?_
        rintro e w6 ⟨⟨us, rfl, hus⟩, hl⟩
        replace hB := bthen hB hl
        replace iB := iB.carry hl
        replace i9 := i9.carry hl
        clear hl hu2 hu3
        go_wp2_with fail
        refine (polyL_any _ a w6 (HA.out.carry hB) (by omega)).mono ?_
        rintro e w7 ⟨⟨u2, rfl, hu2⟩, hl⟩
        replace hB := bthen hB hl
        replace iB := iB.carry hl
        replace i9 := i9.carry hl
        replace hus := hus.carry hl
        clear hl
        go_wp2_with fail
        refine (polyL_any _ b w7 (HB.out.carry hB) (by omega)).mono ?_
        rintro e w8 ⟨⟨u3, rfl, hu3⟩, hl⟩
        replace hB := bthen hB hl
        replace iB := iB.carry hl
        replace i9 := i9.carry hl
        replace hu2 := hu2.carry hl
        replace hus := hus.carry hl
        clear hl
        go_wp2_with fail
        refine (Product_any u2 u3 a b w8 hu2 hu3 (by omega) (by omega)).mono ?_
        rintro e w9 ⟨⟨up, rfl, hup⟩, hl⟩
        replace hB := bthen hB hl
        replace iB := iB.carry hl
        replace i9 := i9.carry hl
        replace hus := hus.carry hl
        clear hl hu2 hu3
        have tc := CheckPolyR_any _ a w9 (HA.out.carry hB) (by omega)
        rw [← HCE.out] at tc
        go_wp2_with fail
        refine tc.mono ?_
        clear tc
        rintro e wx ⟨rfl, rfl⟩
        go_upto_region 8 with fail
        have e0 := iB.cell (j := 0) (v := .int .i64 zr) rfl
        have e1 := iB.cell (j := 1) (v := .int .i64 zi) rfl
        go_cut [16] from 63 to 71 (fun v wn => v = .int .i64 ve ∧ Below w9.heap.size w9 wn)
        case first =>
          obtain ⟨re, hre⟩ : ∃ x, x = withinE zr (-8) 8 := ⟨_, rfl⟩
          obtain ⟨ie, hie⟩ : ∃ x, x = withinE zi (-8) 8 := ⟨_, rfl⟩
          have TR := Lib.hid (fun W => CheckRange_any zr (-8) 8 W)
          have TI := Lib.hid (fun W => CheckRange_any zi (-8) 8 W)
          rw [← hre] at TR
          rw [← hie] at TI
          have HF := Lib.hid (show firstE [ce, re, ie] = ve by rw [HVE.out, HCE.out, hre, hie]; rfl)
          clear hre hie
          refine wp_region_held_drew (S := (fun w' => w'.cell? ⟨w.heap.size, 0, none⟩ = some (.int .i64 zr) ∧ w'.cell? ⟨w.heap.size, 1, none⟩ = some (.int .i64 zi))) (by kernel_rfl) ⟨cellb e0 (Below.refl _ _).drew, cellb e1 (Below.refl _ _).drew⟩ (fun hHeld0 => ?_)
          obtain ⟨wzd, hwz⟩ : ∃ v, v = w9.drew := ⟨_, rfl⟩
          rw [← hwz] at hHeld0 ⊢
          have hbzd : Below w9.heap.size w9 wzd := by rw [hwz]; exact (Below.refl _ _).drew
          have hlzd : Below w9.heap.size w9 wzd := by rw [hwz]; exact (Below.refl _ _).drew
          clear hwz hlzd
          refine wpAnyH_take (i := 0) (oi := { dst := some 63, op := Op.move (Operand.tmp 15), type := 3, pos := "law.go:90", after := #[], guard := none }) (v := ?_) rfl (by kernel_rfl) (by kernel_rfl) (by kernel_rfl) (fun _ _ _ h => h) (Or.inl ⟨by rfl, ?_⟩) (by assumption) ?_
          rotate_left
          · (intro w hSw; (try dsimp only at hSw); go_simp); (try with_reducible rfl)
          try simp only [Act.put, List.setIfInBounds_toArray, List.set_cons_zero, List.set_cons_succ]
          refine wpAnyH_take (i := 1) (oi := { dst := some 64, op := Op.fieldAddr 59 (Operand.tmp 5) 0, type := 0, pos := "law.go:90", after := #[], guard := none }) (v := ?_) rfl (by kernel_rfl) (by kernel_rfl) (by kernel_rfl) (fun _ _ _ h => h) (Or.inl ⟨by rfl, ?_⟩) (by assumption) ?_
          rotate_left
          · (intro w hSw; (try dsimp only at hSw); go_simp); (try with_reducible rfl)
          try simp only [Act.put, List.setIfInBounds_toArray, List.set_cons_zero, List.set_cons_succ]
          refine wpAnyH_take (i := 2) (oi := { dst := some 65, op := Op.load 3 (Operand.tmp 64), type := 3, pos := "law.go:90", after := #[{ on := 1, ground := Ground.data }], guard := none }) (v := ?_) rfl (by kernel_rfl) (by kernel_rfl) (by kernel_rfl) (fun _ _ _ h => h) (Or.inl ⟨by rfl, ?_⟩) (by assumption) ?_
          rotate_left
          · (intro w hSw; (try dsimp only at hSw); go_simp); (try with_reducible rfl)
          try simp only [Act.put, List.setIfInBounds_toArray, List.set_cons_zero, List.set_cons_succ]
          refine wpAnyH_take (i := 4) (oi := { dst := some 67, op := Op.fieldAddr 59 (Operand.tmp 5) 1, type := 0, pos := "law.go:90", after := #[], guard := none }) (v := ?_) rfl (by kernel_rfl) (by kernel_rfl) (by kernel_rfl) (fun _ _ _ h => h) (Or.inl ⟨by rfl, ?_⟩) (by assumption) ?_
          rotate_left
          · (intro w hSw; (try dsimp only at hSw); go_simp); (try with_reducible rfl)
          try simp only [Act.put, List.setIfInBounds_toArray, List.set_cons_zero, List.set_cons_succ]
          refine wpAnyH_take (i := 5) (oi := { dst := some 68, op := Op.load 3 (Operand.tmp 67), type := 3, pos := "law.go:90", after := #[{ on := 4, ground := Ground.data }], guard := none }) (v := ?_) rfl (by kernel_rfl) (by kernel_rfl) (by kernel_rfl) (fun _ _ _ h => h) (Or.inl ⟨by rfl, ?_⟩) (by assumption) ?_
          rotate_left
          · (intro w hSw; (try dsimp only at hSw); go_simp); (try with_reducible rfl)
          try simp only [Act.put, List.setIfInBounds_toArray, List.set_cons_zero, List.set_cons_succ]
          refine wpAnyH_ready (rs := [3]) (by kernel_rfl) (by simp) ?_
          refine (AllReadyH.cons (o := { dst := some 66, op := Op.call { callee := Callee.value (Operand.func 68), args := #[Operand.tmp 65, Operand.const (Value.int IntKind.i64 (-8)), Operand.const (Value.int IntKind.i64 8)], argTypes := #[3, 3, 3] }, type := 3, pos := "law.go:90", after := #[{ on := 2, ground := Ground.data }], guard := none }) rfl (fun K hK => ?_) AllReadyH.nil)
          go_simp
          refine (TR.out wzd).mono ?_
          rintro e wz3 ⟨rfl, hww⟩
          have hl : Below wzd.heap.size wzd wz3 := by rw [hww]; exact Below.refl _ _
          clear hww
          (try go_wp2_with fail)
          have hbz3 := bthen hbzd hl
          clear hl
          refine hK.out _ _ ⟨cellb e0 hbz3, cellb e1 hbz3⟩ (fun hHeld1 => ?_)
          clear hK K hHeld0
          try simp only [Act.put, List.setIfInBounds_toArray, List.set_cons_zero, List.set_cons_succ]
          refine wpAnyH_ready (rs := [6]) (by kernel_rfl) (by simp) ?_
          refine (AllReadyH.cons (o := { dst := some 69, op := Op.call { callee := Callee.value (Operand.func 68), args := #[Operand.tmp 68, Operand.const (Value.int IntKind.i64 (-8)), Operand.const (Value.int IntKind.i64 8)], argTypes := #[3, 3, 3] }, type := 3, pos := "law.go:90", after := #[{ on := 5, ground := Ground.data }, { on := 3, ground := Ground.chain }], guard := none }) rfl (fun K hK => ?_) AllReadyH.nil)
          go_simp
          refine (TI.out wz3).mono ?_
          rintro e wz6 ⟨rfl, hww⟩
          have hl : Below wz3.heap.size wz3 wz6 := by rw [hww]; exact Below.refl _ _
          clear hww
          (try go_wp2_with fail)
          have hbz6 := bthen hbz3 hl
          clear hl
          refine hK.out _ _ ⟨cellb e0 hbz6, cellb e1 hbz6⟩ (fun hHeld2 => ?_)
          clear hK K hHeld1
          try simp only [Act.put, List.setIfInBounds_toArray, List.set_cons_zero, List.set_cons_succ]
          refine wpAnyH_ready (rs := [7]) (by kernel_rfl) (by simp) ?_
          refine (AllReadyH.cons (o := { dst := some 70, op := Op.buildSlice 22 3 #[(0, Operand.tmp 63), (1, Operand.tmp 66), (2, Operand.tmp 69)], type := 22, pos := "law.go:90", after := #[{ on := 0, ground := Ground.data }, { on := 3, ground := Ground.data }, { on := 6, ground := Ground.data }], guard := none }) rfl (fun K hK => ?_) AllReadyH.nil)
          go_simp
          obtain ⟨wz7, hwz⟩ : ∃ v, v = wz6.alloc (Obj.cells #[.int .i64 ce, .int .i64 re, .int .i64 ie] 3) := ⟨_, rfl⟩
          rw [← hwz]
          have hl : Below wz6.heap.size wz6 wz7 := by rw [hwz]; exact below_new _ _
          have hbz7 := bthen hbz6 hl
          have bs : BlkI wz7 wz6.heap.size 3 [ce, re, ie] := by rw [hwz]; exact Blk.new _ _ _
          generalize wz6.heap.size = G at bs ⊢
          clear hwz
          clear hl
          refine hK.out _ _ ⟨cellb e0 hbz7, cellb e1 hbz7⟩ (fun hHeld3 => ?_)
          clear hK K hHeld2
          try simp only [Act.put, List.setIfInBounds_toArray, List.set_cons_zero, List.set_cons_succ]
          refine wpAnyH_ready (rs := [8]) (by kernel_rfl) (by simp) ?_
          refine (AllReadyH.cons (o := { dst := some 71, op := Op.call { callee := Callee.value (Operand.func 49), args := #[Operand.tmp 70], argTypes := #[22] }, type := 3, pos := "law.go:90", after := #[{ on := 7, ground := Ground.data }, { on := 6, ground := Ground.chain }], guard := none }) rfl (fun K hK => ?_) AllReadyH.nil)
          go_simp
          have tf := FirstR_any _ [ce, re, ie] wz7 (by simp) (BlkI.ints (n := 3) bs rfl)
          rw [HF.out] at tf
          refine tf.mono ?_
          clear tf
          rintro e wz8 ⟨rfl, hww⟩
          have hl : Below wz7.heap.size wz7 wz8 := by rw [hww]; exact Below.refl _ _
          clear hww
          (try go_wp2_with fail)
          have hbz8 := bthen hbz7 hl
          have bs := bs.carry hl
          clear hl
          refine hK.out _ _ ⟨cellb e0 hbz8, cellb e1 hbz8⟩ (fun hHeld4 => ?_)
          clear hK K hHeld3
          try simp only [Act.put, List.setIfInBounds_toArray, List.set_cons_zero, List.set_cons_succ]
          refine wpAnyH_take (i := 9) (oi := { dst := some 16, op := Op.assign (Operand.tmp 71), type := 3, pos := "law.go:90", after := #[{ on := 8, ground := Ground.data }, { on := 8, ground := Ground.chain }, { on := 0, ground := Ground.phase }, { on := 1, ground := Ground.phase }, { on := 2, ground := Ground.phase }, { on := 3, ground := Ground.phase }, { on := 4, ground := Ground.phase }, { on := 5, ground := Ground.phase }, { on := 6, ground := Ground.phase }, { on := 7, ground := Ground.phase }, { on := 8, ground := Ground.phase }], guard := none }) (v := ?_) rfl (by kernel_rfl) (by kernel_rfl) (by kernel_rfl) (fun _ _ _ h => h) (Or.inl ⟨by rfl, ?_⟩) (by assumption) ?_
          rotate_left
          · (intro w hSw; (try dsimp only at hSw); go_simp); (try with_reducible rfl)
          try simp only [Act.put, List.setIfInBounds_toArray, List.set_cons_zero, List.set_cons_succ]
          refine wpAnyH_done (by kernel_rfl) ?_ _
          clear hHeld4
          go_wp2_with fail
          go_meet
          exact ⟨rfl, hbz8⟩
        case rest =>
          obtain ⟨rfl, hl⟩ := hcut
          obtain ⟨wd, rfl⟩ : ∃ wd, wd = wc := ⟨_, rfl⟩
          clear e0 e1
          replace hB := bthen hB hl
          replace iB := iB.carry hl
          replace i9 := i9.carry hl
          replace hus := hus.carry hl
          replace hup := hup.carry hl
          clear hl
          have hsl : (sumR a b).length ≤ 1000000 := by
            unfold sumR
            split
            · simp
            · exact Nat.le_trans (by rw [plusW, trimL_length]; exact trimN_le _ _) (by rw [sumW_length]; omega)
          have hpl : (prodR a b).length ≤ 1000000 := by
            unfold prodR
            split
            · simp
            · rw [timesW_length]; omega
          by_cases h1 : checkPolyE a = 0
          · have hp1 := (checkPolyE_ok h1).1
            obtain rfl : deg = (a.length : Int) - 1 := by rw [HDG.out, degreeR, if_neg (by rw [h1]; simp)]
            obtain rfl : ce = 0 := by rw [HCE.out, h1]
            by_cases h2 : valueE a zr zi = 0
            · obtain rfl : ve = 0 := by rw [HVE.out, h2]
              have hat := valueR_at h2
              rw [← HVR.out] at hat
              have HAT := Lib.hid hat
              clear h1 h2 hat
              have e0 := iB.cell (j := 0) (v := .int .i64 zr) rfl
              have e1 := iB.cell (j := 1) (v := .int .i64 zi) rfl
              go_upto_region 13 with fail
              obtain ⟨We, hWe⟩ : ∃ v, v = World.alloc wd (Obj.cells #[.int .i64 0, .int .i64 0] 59) := ⟨_, rfl⟩
              have kWe : Below wd.heap.size wd We := by rw [hWe]; exact below_new _ _
              have iWe : Blk We (wd.heap.size) 59 [.int .i64 0, .int .i64 0] := by rw [hWe]; exact Blk.new _ _ _
              have sWe : We.heap.size = wd.heap.size + 1 := by rw [hWe]; simp
              rw [← hWe]
              clear hWe
              clear sWe
              have ix := iWe
              have hBe := bthen hB kWe
              clear iWe e0 e1
              have iBe := iB.carry kWe
              have e0 := iBe.cell (j := 0) (v := .int .i64 zr) rfl
              have e1 := iBe.cell (j := 1) (v := .int .i64 zi) rfl
              clear iBe
              go_wp2_with fail
              refine (ValueR_any _ a zr zi We (HA.out.carry hBe) hp1 (by omega)).mono ?_
              rintro e wv ⟨rfl, hl⟩
              replace kWe := bthen kWe hl
              replace ix := ix.carry hl
              clear hl hBe e0 e1
              rw [← HAT.out]
              have q0 := ix.cell (j := 0) (v := .int .i64 0) rfl
              have q1 := ix.cell (j := 1) (v := .int .i64 0) rfl
              have f0 := ix.frozen 0
              have f1 := ix.frozen 1
              go_wp2_with fail
              obtain ⟨Ws, hWs⟩ : ∃ v, v = (wv.setCell ⟨wd.heap.size, 0, none⟩ (.int .i64 vr)).setCell ⟨wd.heap.size, 1, none⟩ (.int .i64 vi) := ⟨_, rfl⟩
              replace ix := ix.set2 (.int .i64 vr) (.int .i64 vi)
              have hl : Below wd.heap.size wd Ws := by rw [hWs]; exact (kWe.setCell (Nat.le_refl _) _).setCell (Nat.le_refl _) _
              rw [← hWs] at ix ⊢
              clear hWs q0 q1 f0 f1 kWe
              replace hB := bthen hB hl
              replace iB := iB.carry hl
              replace i9 := i9.carry hl
              replace hus := hus.carry hl
              replace hup := hup.carry hl
              clear hl
              generalize wd.heap.size = X at ix ⊢
              have i9c0 := i9.cell (j := 0) rfl
              have i9c1 := i9.cell (j := 1) rfl
              have ixc0 := ix.cell (j := 0) rfl
              have ixc1 := ix.cell (j := 1) rfl
              clear i9c0 i9c1 ixc0 ixc1
              go_wp2_with fail
              refine (SumR_any _ _ a b Ws (HA.out.carry hB) (HB.out.carry hB) (by omega) (by omega)).mono ?_
              rintro e y1 ⟨⟨vs, rfl, hvs⟩, hl⟩
              replace hB := bthen hB hl
              replace iB := iB.carry hl
              replace i9 := i9.carry hl
              replace ix := ix.carry hl
              replace hus := hus.carry hl
              replace hup := hup.carry hl
              clear hl
              go_wp2_with fail
              refine (ProductR_any _ _ a b y1 (HA.out.carry hB) (HB.out.carry hB) (by omega) (by omega)).mono ?_
              rintro e y2 ⟨⟨vp, rfl, hvp⟩, hl⟩
              replace hB := bthen hB hl
              replace iB := iB.carry hl
              replace i9 := i9.carry hl
              replace ix := ix.carry hl
              replace hus := hus.carry hl
              replace hup := hup.carry hl
              replace hvs := hvs.carry hl
              clear hl
              go_wp2_with fail
              refine (polyL_any _ a y2 (HA.out.carry hB) (by omega)).mono ?_
              rintro e y3 ⟨⟨u2, rfl, hu2⟩, hl⟩
              replace hB := bthen hB hl
              replace iB := iB.carry hl
              replace i9 := i9.carry hl
              replace ix := ix.carry hl
              replace hus := hus.carry hl
              replace hup := hup.carry hl
              replace hvs := hvs.carry hl
              replace hvp := hvp.carry hl
              clear hl
              have tc := CheckPoly_any u2 a y3 (by omega) hu2
              rw [← HCE.out] at tc
              go_wp2_with fail
              refine tc.mono ?_
              clear tc
              rintro e y4 ⟨rfl, hl⟩
              replace hB := bthen hB hl
              replace iB := iB.carry hl
              replace i9 := i9.carry hl
              replace ix := ix.carry hl
              replace hus := hus.carry hl
              replace hup := hup.carry hl
              replace hvs := hvs.carry hl
              replace hvp := hvp.carry hl
              clear hl hu2
              have c0 := i9.cell (j := 0) rfl
              have c1 := i9.cell (j := 1) rfl
              have k0 := ix.cell (j := 0) rfl
              have k1 := ix.cell (j := 1) rfl
              generalize hse : sumE a b = se
              generalize hpe : prodE a b = pe
              clear hse hpe
              go_wp2_with fail
              refine (sameInts us vs _ y4 hus hvs hsl).mono ?_
              rintro e y5 ⟨rfl, hl⟩
              clear c0 c1 k0 k1
              replace hB := bthen hB hl
              replace iB := iB.carry hl
              replace hup := hup.carry hl
              replace hvp := hvp.carry hl
              clear hl
              go_wp2_with fail
              refine (sameInts up vp _ y5 hup hvp hpl).mono ?_
              rintro e y6 ⟨rfl, hl⟩
              replace hB := bthen hB hl
              replace iB := iB.carry hl
              clear hl
              go_wp2_with fail
              refine (awake_any y6 (hq.below hB hq.size) (hpw.below hB)).mono ?_
              rintro e y7 ⟨rfl, hl⟩
              go_wp2
              go_ret
              exact ⟨rfl, bthen hB hl⟩
            · have hvz : valueR a zr zi = (0, 0) := by rw [valueR, if_pos h2]
              rw [← HVR.out] at hvz
              obtain ⟨rfl, rfl⟩ := Prod.mk.inj hvz
              have z2 : (ve == 0) = false := by rw [beq_eq_false_iff_ne, HVE.out]; exact h2
              clear hvz
              clear h1 h2
              go_upto_region 14 with fail
              obtain ⟨We, hWe⟩ : ∃ v, v = World.alloc wd (Obj.cells #[.int .i64 0, .int .i64 0] 59) := ⟨_, rfl⟩
              have kWe : Below wd.heap.size wd We := by rw [hWe]; exact below_new _ _
              have iWe : Blk We (wd.heap.size) 59 [.int .i64 0, .int .i64 0] := by rw [hWe]; exact Blk.new _ _ _
              have sWe : We.heap.size = wd.heap.size + 1 := by rw [hWe]; simp
              rw [← hWe]
              clear hWe
              clear sWe
              have ix := iWe
              have hl := kWe
              clear kWe iWe
              replace hB := bthen hB hl
              replace iB := iB.carry hl
              replace i9 := i9.carry hl
              replace hus := hus.carry hl
              replace hup := hup.carry hl
              clear hl
              generalize wd.heap.size = X at ix ⊢
              have i9c0 := i9.cell (j := 0) rfl
              have i9c1 := i9.cell (j := 1) rfl
              have ixc0 := ix.cell (j := 0) rfl
              have ixc1 := ix.cell (j := 1) rfl
              clear i9c0 i9c1 ixc0 ixc1
              go_wp2_with fail
              refine (SumR_any _ _ a b We (HA.out.carry hB) (HB.out.carry hB) (by omega) (by omega)).mono ?_
              rintro e y1 ⟨⟨vs, rfl, hvs⟩, hl⟩
              replace hB := bthen hB hl
              replace iB := iB.carry hl
              replace i9 := i9.carry hl
              replace ix := ix.carry hl
              replace hus := hus.carry hl
              replace hup := hup.carry hl
              clear hl
              go_wp2_with fail
              refine (ProductR_any _ _ a b y1 (HA.out.carry hB) (HB.out.carry hB) (by omega) (by omega)).mono ?_
              rintro e y2 ⟨⟨vp, rfl, hvp⟩, hl⟩
              replace hB := bthen hB hl
              replace iB := iB.carry hl
              replace i9 := i9.carry hl
              replace ix := ix.carry hl
              replace hus := hus.carry hl
              replace hup := hup.carry hl
              replace hvs := hvs.carry hl
              clear hl
              go_wp2_with fail
              refine (polyL_any _ a y2 (HA.out.carry hB) (by omega)).mono ?_
              rintro e y3 ⟨⟨u2, rfl, hu2⟩, hl⟩
              replace hB := bthen hB hl
              replace iB := iB.carry hl
              replace i9 := i9.carry hl
              replace ix := ix.carry hl
              replace hus := hus.carry hl
              replace hup := hup.carry hl
              replace hvs := hvs.carry hl
              replace hvp := hvp.carry hl
              clear hl
              have tc := CheckPoly_any u2 a y3 (by omega) hu2
              rw [← HCE.out] at tc
              go_wp2_with fail
              refine tc.mono ?_
              clear tc
              rintro e y4 ⟨rfl, hl⟩
              replace hB := bthen hB hl
              replace iB := iB.carry hl
              replace i9 := i9.carry hl
              replace ix := ix.carry hl
              replace hus := hus.carry hl
              replace hup := hup.carry hl
              replace hvs := hvs.carry hl
              replace hvp := hvp.carry hl
              clear hl hu2
              have c0 := i9.cell (j := 0) rfl
              have c1 := i9.cell (j := 1) rfl
              have k0 := ix.cell (j := 0) rfl
              have k1 := ix.cell (j := 1) rfl
              generalize hse : sumE a b = se
              generalize hpe : prodE a b = pe
              clear hse hpe
              go_wp2_with fail
              refine (sameInts us vs _ y4 hus hvs hsl).mono ?_
              rintro e y5 ⟨rfl, hl⟩
              clear c0 c1 k0 k1
              replace hB := bthen hB hl
              replace iB := iB.carry hl
              replace hup := hup.carry hl
              replace hvp := hvp.carry hl
              clear hl
              go_wp2_with fail
              refine (sameInts up vp _ y5 hup hvp hpl).mono ?_
              rintro e y6 ⟨rfl, hl⟩
              replace hB := bthen hB hl
              replace iB := iB.carry hl
              clear hl
              go_wp2_with fail
              refine (awake_any y6 (hq.below hB hq.size) (hpw.below hB)).mono ?_
              rintro e y7 ⟨rfl, hl⟩
              go_wp2
              go_ret
              exact ⟨rfl, bthen hB hl⟩
          · have h2 : valueE a zr zi ≠ 0 := fun h => h1 (value_poly h)
            have hvz : valueR a zr zi = (0, 0) := by rw [valueR, if_pos h2]
            rw [← HVR.out] at hvz
            obtain ⟨rfl, rfl⟩ := Prod.mk.inj hvz
            have z2 : (ve == 0) = false := by rw [beq_eq_false_iff_ne, HVE.out]; exact h2
            clear hvz
            have z1 : (ce == 0) = false := by rw [beq_eq_false_iff_ne, HCE.out]; exact h1
            obtain rfl : deg = 0 := by rw [HDG.out, degreeR, if_pos h1]
            clear h1 h2
            go_upto_region 14 with fail
            obtain ⟨We, hWe⟩ : ∃ v, v = World.alloc wd (Obj.cells #[.int .i64 0, .int .i64 0] 59) := ⟨_, rfl⟩
            have kWe : Below wd.heap.size wd We := by rw [hWe]; exact below_new _ _
            have iWe : Blk We (wd.heap.size) 59 [.int .i64 0, .int .i64 0] := by rw [hWe]; exact Blk.new _ _ _
            have sWe : We.heap.size = wd.heap.size + 1 := by rw [hWe]; simp
            rw [← hWe]
            clear hWe
            clear sWe
            have ix := iWe
            have hl := kWe
            clear kWe iWe
            replace hB := bthen hB hl
            replace iB := iB.carry hl
            replace i9 := i9.carry hl
            replace hus := hus.carry hl
            replace hup := hup.carry hl
            clear hl
            generalize wd.heap.size = X at ix ⊢
            have i9c0 := i9.cell (j := 0) rfl
            have i9c1 := i9.cell (j := 1) rfl
            have ixc0 := ix.cell (j := 0) rfl
            have ixc1 := ix.cell (j := 1) rfl
            clear i9c0 i9c1 ixc0 ixc1
            go_wp2_with fail
            refine (SumR_any _ _ a b We (HA.out.carry hB) (HB.out.carry hB) (by omega) (by omega)).mono ?_
            rintro e y1 ⟨⟨vs, rfl, hvs⟩, hl⟩
            replace hB := bthen hB hl
            replace iB := iB.carry hl
            replace i9 := i9.carry hl
            replace ix := ix.carry hl
            replace hus := hus.carry hl
            replace hup := hup.carry hl
            clear hl
            go_wp2_with fail
            refine (ProductR_any _ _ a b y1 (HA.out.carry hB) (HB.out.carry hB) (by omega) (by omega)).mono ?_
            rintro e y2 ⟨⟨vp, rfl, hvp⟩, hl⟩
            replace hB := bthen hB hl
            replace iB := iB.carry hl
            replace i9 := i9.carry hl
            replace ix := ix.carry hl
            replace hus := hus.carry hl
            replace hup := hup.carry hl
            replace hvs := hvs.carry hl
            clear hl
            go_wp2_with fail
            refine (polyL_any _ a y2 (HA.out.carry hB) (by omega)).mono ?_
            rintro e y3 ⟨⟨u2, rfl, hu2⟩, hl⟩
            replace hB := bthen hB hl
            replace iB := iB.carry hl
            replace i9 := i9.carry hl
            replace ix := ix.carry hl
            replace hus := hus.carry hl
            replace hup := hup.carry hl
            replace hvs := hvs.carry hl
            replace hvp := hvp.carry hl
            clear hl
            have tc := CheckPoly_any u2 a y3 (by omega) hu2
            rw [← HCE.out] at tc
            go_wp2_with fail
            refine tc.mono ?_
            clear tc
            rintro e y4 ⟨rfl, hl⟩
            replace hB := bthen hB hl
            replace iB := iB.carry hl
            replace i9 := i9.carry hl
            replace ix := ix.carry hl
            replace hus := hus.carry hl
            replace hup := hup.carry hl
            replace hvs := hvs.carry hl
            replace hvp := hvp.carry hl
            clear hl hu2
            have c0 := i9.cell (j := 0) rfl
            have c1 := i9.cell (j := 1) rfl
            have k0 := ix.cell (j := 0) rfl
            have k1 := ix.cell (j := 1) rfl
            generalize hse : sumE a b = se
            generalize hpe : prodE a b = pe
            clear hse hpe
            go_wp2_with fail
            refine (sameInts us vs _ y4 hus hvs hsl).mono ?_
            rintro e y5 ⟨rfl, hl⟩
            clear c0 c1 k0 k1
            replace hB := bthen hB hl
            replace iB := iB.carry hl
            replace hup := hup.carry hl
            replace hvp := hvp.carry hl
            clear hl
            go_wp2_with fail
            refine (sameInts up vp _ y5 hup hvp hpl).mono ?_
            rintro e y6 ⟨rfl, hl⟩
            replace hB := bthen hB hl
            replace iB := iB.carry hl
            clear hl
            go_wp2_with fail
            refine (awake_any y6 (hq.below hB hq.size) (hpw.below hB)).mono ?_
            rintro e y7 ⟨rfl, hl⟩
            go_wp2
            go_ret
            exact ⟨rfl, bthen hB hl⟩

end Go.Proofs.YtnlmaildmeihgaaGreatDoor

/- The law LoopSums. -/
import Derived.Test.YtnlmaildmeihgaaGreatDoorSmall
import Derived.Test.YtnlmaildmeihgaaGreatDoorPlainT
namespace Go.Proofs.YtnlmaildmeihgaaGreatDoor
set_option linter.unusedSimpArgs false
set_option linter.unusedVariables false
open Go.RowKit

theorem smL_len (a b c : Int) : (smL a b c).length ≤ 3 := by
  unfold smL
  rw [trimL_length]
  exact trimN_le _ _
theorem smR_sm (a b c : Int) : ∀ x ∈ smR a b c, Sm x := fun x hx => by
  have h : ∀ y : Int, Sm (y.tmod 8) := fun y => by
    have h := Int.natAbs_tmod y 8
    have h2 : y.natAbs % (8 : Int).natAbs < 8 := Nat.mod_lt _ (by decide)
    rw [← h] at h2
    unfold Sm; omega
  simp only [smR, List.mem_cons, List.not_mem_nil, or_false] at hx
  rcases hx with rfl | rfl | rfl <;> exact h _
theorem smL_ok (a b c : Int) (h : (smL a b c).length ≠ 0) : SmP (smL a b c) := by
  refine ⟨by omega, smL_len a b c, fun x hx => smR_sm a b c x (List.mem_of_mem_take hx), ?_⟩
  have key : ∀ (l : List Int) (m : Nat), m ≤ l.length → 0 < trimN l m → (l.take (trimN l m))[trimN l m - 1]?.getD 0 ≠ 0 := by
    intro l m
    induction m with
    | zero => intro _ h; simp [trimN] at h
    | succ m ih =>
      intro hm h
      unfold trimN at h ⊢
      split
      · rename_i hz
        rw [if_pos hz] at h
        exact ih (by omega) h
      · rename_i hz
        rw [Nat.add_sub_cancel, List.getElem?_take, if_pos (by omega)]
        exact hz
  have hl : (smL a b c).length = trimN (smR a b c) (smR a b c).length := trimL_length _
  have := key (smR a b c) (smR a b c).length (Nat.le_refl _) (by omega)
  rw [hl]
  exact this
theorem Ints.sub {w : World} {b off c : Nat} {l : List Int} (h : Ints w (.slice (some ⟨b, off, none⟩) l.length c) l) (k m : Nat) (hkm : k + m ≤ l.length) : Ints w (.slice (some ⟨b, off + k, none⟩) m (c - k)) ((l.drop k).take m) := by
  obtain ⟨a', c', he, hc, hv⟩ := h
  cases he
  have hl : ((l.drop k).take m).length = m := by simp; omega
  refine ⟨_, _, by rw [hl], by rw [hl]; omega, fun h0 => ?_⟩
  rw [hl] at h0
  obtain ⟨b', off', he, hcs⟩ := hv (by omega)
  cases he
  refine ⟨b, off + k, rfl, fun j hj => ?_⟩
  rw [hl] at hj
  rw [Nat.add_assoc, hcs (k + j) (by omega), List.getElem?_take, if_pos hj, List.getElem?_drop]
theorem neqGauss (a b : Int) (w : World) : Sem.run Tryz.prog (binOp BinOp.neq 59 (.agg #[.int .i64 a, .int .i64 b]) (.agg #[.int .i64 a, .int .i64 b])) w = .ok (.bool false) w := by
  go_simp

set_option maxRecDepth 100000 in
set_option maxHeartbeats 16000000 in
theorem sms_law (a0 b0 c0 a1 b1 c1 z0 z1 : Int) (w : World) (hq : Quarters w) (hpw : Pows w) (ha0 : -128 ≤ a0 ∧ a0 ≤ 127) (hb0 : -128 ≤ b0 ∧ b0 ≤ 127) (hc0 : -128 ≤ c0 ∧ c0 ≤ 127) (ha1 : -128 ≤ a1 ∧ a1 ≤ 127) (hb1 : -128 ≤ b1 ∧ b1 ≤ 127) (hc1 : -128 ≤ c1 ∧ c1 ≤ 127) (hz0 : -128 ≤ z0 ∧ z0 ≤ 127) (hz1 : -128 ≤ z1 ∧ z1 ≤ 127) :
    Calls Tryz.prog 12 #[.agg #[.int .i8 a0, .int .i8 b0, .int .i8 c0], .agg #[.int .i8 a1, .int .i8 b1, .int .i8 c1], .agg #[.int .i8 z0, .int .i8 z1]] w fun e w' => e = .returned (.bool true) ∧ Below w.heap.size w w' := by
  obtain ⟨zr, hzr⟩ : ∃ x, z0.tmod 9 = x := ⟨_, rfl⟩
  obtain ⟨zi, hzi⟩ : ∃ x, z1.tmod 9 = x := ⟨_, rfl⟩
  have tb : ∀ y : Int, -8 ≤ y.tmod 9 ∧ y.tmod 9 ≤ 8 := fun y => by
    have h := Int.natAbs_tmod y 9
    have h2 : y.natAbs % (9 : Int).natAbs < 9 := Nat.mod_lt _ (by decide)
    rw [← h] at h2
    omega
  have br : -8 ≤ zr ∧ zr ≤ 8 := by rw [← hzr]; exact tb _
  have bi : -8 ≤ zi ∧ zi ≤ 8 := by rw [← hzi]; exact tb _
  have k0 : IntKind.i64.wrap z0 = z0 := IntWalk.i64_in _ (by omega)
  have k1 : IntKind.i64.wrap z1 = z1 := IntWalk.i64_in _ (by omega)
  have TP := Lib.hid (fun W => small_any a0 b0 c0 W ha0 hb0 hc0)
  have TS := Lib.hid (fun W => small_any a1 b1 c1 W ha1 hb1 hc1)
  have HLP := Lib.hid (smL_len a0 b0 c0)
  have HLS := Lib.hid (smL_len a1 b1 c1)
  have HOP := Lib.hid (smL_ok a0 b0 c0)
  have HOS := Lib.hid (smL_ok a1 b1 c1)
  generalize smL a0 b0 c0 = P at TP HLP HOP
  generalize smL a1 b1 c1 = S at TS HLS HOS
  have BR := Lib.hid br
  have BI := Lib.hid bi
  have HB1 := Lib.hid (And.intro ha1 (And.intro hb1 (And.intro hz0 hz1)))
  clear br bi tb ha0 hb0 hc0 ha1 hb1 hc1 hz0 hz1
  go_enter Tryz.func12, Tryz.ntmps12
  go_upto_region 1 with fail
  obtain ⟨W1, hW1⟩ : ∃ v, v = World.alloc w (Obj.cells #[.int .i8 a0, .int .i8 b0, .int .i8 c0] 111) := ⟨_, rfl⟩
  have kW1 : Below w.heap.size w W1 := by rw [hW1]; exact below_new _ _
  have iW1 : Blk W1 (w.heap.size) 111 [.int .i8 a0, .int .i8 b0, .int .i8 c0] := by rw [hW1]; exact Blk.new _ _ _
  have sW1 : W1.heap.size = w.heap.size + 1 := by rw [hW1]; simp
  rw [← hW1]
  clear hW1
  obtain ⟨W2, hW2⟩ : ∃ v, v = World.alloc W1 (Obj.cells #[.int .i8 a1, .int .i8 b1, .int .i8 c1] 111) := ⟨_, rfl⟩
  have kW2 : Below W1.heap.size W1 W2 := by rw [hW2]; exact below_new _ _
  have iW2 : Blk W2 (w.heap.size + 1) 111 [.int .i8 a1, .int .i8 b1, .int .i8 c1] := by rw [hW2, ← sW1]; exact Blk.new _ _ _
  have sW2 : W2.heap.size = w.heap.size + 1 + 1 := by rw [hW2]; simp [sW1]
  rw [← hW2]
  clear hW2
  obtain ⟨W3, hW3⟩ : ∃ v, v = World.alloc W2 (Obj.cells #[.int .i8 z0, .int .i8 z1] 112) := ⟨_, rfl⟩
  have kW3 : Below W2.heap.size W2 W3 := by rw [hW3]; exact below_new _ _
  have iW3 : Blk W3 (w.heap.size + 1 + 1) 112 [.int .i8 z0, .int .i8 z1] := by rw [hW3, ← sW2]; exact Blk.new _ _ _
  have sW3 : W3.heap.size = w.heap.size + 1 + 1 + 1 := by rw [hW3]; simp [sW2]
  rw [← hW3]
  clear hW3
  clear sW1 sW2 sW3
  have iA := (iW1.carry kW2).carry kW3
  have iB := iW2.carry kW3
  have iZ := iW3
  have hB := bthen kW1 (bthen kW2 kW3)
  clear iW1 iW2 iW3 kW1 kW2 kW3
  have x0 := iA.cell (j := 0) (v := .int .i8 a0) rfl
  have x1 := iA.cell (j := 1) (v := .int .i8 b0) rfl
  have x2 := iA.cell (j := 2) (v := .int .i8 c0) rfl
  have x3 := iB.cell (j := 0) (v := .int .i8 a1) rfl
  have x4 := iB.cell (j := 1) (v := .int .i8 b1) rfl
  have x5 := iB.cell (j := 2) (v := .int .i8 c1) rfl
  refine wp_region_held_drew (S := (fun w' => w'.cell? ⟨w.heap.size, 0, none⟩ = some (.int .i8 a0) ∧ w'.cell? ⟨w.heap.size, 1, none⟩ = some (.int .i8 b0) ∧ w'.cell? ⟨w.heap.size, 2, none⟩ = some (.int .i8 c0) ∧ w'.cell? ⟨w.heap.size + 1, 0, none⟩ = some (.int .i8 a1) ∧ w'.cell? ⟨w.heap.size + 1, 1, none⟩ = some (.int .i8 b1) ∧ w'.cell? ⟨w.heap.size + 1, 2, none⟩ = some (.int .i8 c1))) (by kernel_rfl) ⟨cellb x0 (Below.refl _ _).drew, cellb x1 (Below.refl _ _).drew, cellb x2 (Below.refl _ _).drew, cellb x3 (Below.refl _ _).drew, cellb x4 (Below.refl _ _).drew, cellb x5 (Below.refl _ _).drew⟩ (fun hHeld0 => ?_)
  obtain ⟨wzd, hwz⟩ : ∃ v, v = W3.drew := ⟨_, rfl⟩
  rw [← hwz] at hHeld0 ⊢
  have hbzd : Below W3.heap.size W3 wzd := by rw [hwz]; exact (Below.refl _ _).drew
  have hlzd : Below W3.heap.size W3 wzd := by rw [hwz]; exact (Below.refl _ _).drew
  have iB := iB.carry hlzd
  have iZ := iZ.carry hlzd
  clear hwz hlzd
  refine wpAnyH_take (i := 0) (oi := { dst := some 36, op := Op.load 111 (Operand.tmp 3), type := 111, pos := "law.go:306", after := #[], guard := none }) (v := ?_) rfl (by kernel_rfl) (by kernel_rfl) (by kernel_rfl) (fun _ _ _ h => h) (Or.inl ⟨by rfl, ?_⟩) (by assumption) ?_
  rotate_left
  · (intro w hSw; (try dsimp only at hSw); go_simp); (try with_reducible rfl)
  try simp only [Act.put, List.setIfInBounds_toArray, List.set_cons_zero, List.set_cons_succ]
  refine wpAnyH_take (i := 2) (oi := { dst := some 38, op := Op.load 111 (Operand.tmp 4), type := 111, pos := "law.go:306", after := #[], guard := none }) (v := ?_) rfl (by kernel_rfl) (by kernel_rfl) (by kernel_rfl) (fun _ _ _ h => h) (Or.inl ⟨by rfl, ?_⟩) (by assumption) ?_
  rotate_left
  · (intro w hSw; (try dsimp only at hSw); go_simp); (try with_reducible rfl)
  try simp only [Act.put, List.setIfInBounds_toArray, List.set_cons_zero, List.set_cons_succ]
  refine wpAnyH_ready (rs := [1]) (by kernel_rfl) (by simp) ?_
  refine (AllReadyH.cons (o := { dst := some 37, op := Op.call { callee := Callee.value (Operand.func 63), args := #[Operand.tmp 36], argTypes := #[111] }, type := 22, pos := "law.go:306", after := #[{ on := 0, ground := Ground.data }], guard := none }) rfl (fun K hK => ?_) AllReadyH.nil)
  go_simp
  refine (TP.out wzd).mono ?_
  rintro e wz1 ⟨⟨up, rfl, hup⟩, hl⟩
  (try go_wp2_with fail)
  have hbz1 := bthen hbzd hl
  have iB := iB.carry hl
  have iZ := iZ.carry hl
  clear hl
  refine hK.out _ _ ⟨cellb x0 hbz1, cellb x1 hbz1, cellb x2 hbz1, cellb x3 hbz1, cellb x4 hbz1, cellb x5 hbz1⟩ (fun hHeld1 => ?_)
  clear hK K hHeld0
  try simp only [Act.put, List.setIfInBounds_toArray, List.set_cons_zero, List.set_cons_succ]
  refine wpAnyH_ready (rs := [3]) (by kernel_rfl) (by simp) ?_
  refine (AllReadyH.cons (o := { dst := some 39, op := Op.call { callee := Callee.value (Operand.func 63), args := #[Operand.tmp 38], argTypes := #[111] }, type := 22, pos := "law.go:306", after := #[{ on := 2, ground := Ground.data }, { on := 1, ground := Ground.chain }], guard := none }) rfl (fun K hK => ?_) AllReadyH.nil)
  go_simp
  refine (TS.out wz1).mono ?_
  rintro e wz3 ⟨⟨us, rfl, hus⟩, hl⟩
  (try go_wp2_with fail)
  have hbz3 := bthen hbz1 hl
  have iB := iB.carry hl
  have iZ := iZ.carry hl
  have hup := hup.carry hl
  clear hl
  refine hK.out _ _ ⟨cellb x0 hbz3, cellb x1 hbz3, cellb x2 hbz3, cellb x3 hbz3, cellb x4 hbz3, cellb x5 hbz3⟩ (fun hHeld2 => ?_)
  clear hK K hHeld1
  try simp only [Act.put, List.setIfInBounds_toArray, List.set_cons_zero, List.set_cons_succ]
  refine wpAnyH_take (i := 4) (oi := { dst := some 7, op := Op.assign (Operand.tmp 37), type := 22, pos := "law.go:306", after := #[{ on := 1, ground := Ground.data }, { on := 3, ground := Ground.chain }, { on := 0, ground := Ground.phase }, { on := 1, ground := Ground.phase }, { on := 2, ground := Ground.textOnly Departure.lateStores }, { on := 3, ground := Ground.textOnly Departure.lateStoresUnsure }], guard := none }) (v := ?_) rfl (by kernel_rfl) (by kernel_rfl) (by kernel_rfl) (fun _ _ _ h => h) (Or.inl ⟨by rfl, ?_⟩) (by assumption) ?_
  rotate_left
  · (intro w hSw; (try dsimp only at hSw); go_simp); (try with_reducible rfl)
  try simp only [Act.put, List.setIfInBounds_toArray, List.set_cons_zero, List.set_cons_succ]
  refine wpAnyH_take (i := 5) (oi := { dst := some 8, op := Op.assign (Operand.tmp 39), type := 22, pos := "law.go:306", after := #[{ on := 3, ground := Ground.data }, { on := 4, ground := Ground.chain }, { on := 0, ground := Ground.phase }, { on := 1, ground := Ground.phase }, { on := 2, ground := Ground.phase }, { on := 3, ground := Ground.phase }, { on := 4, ground := Ground.phase }], guard := none }) (v := ?_) rfl (by kernel_rfl) (by kernel_rfl) (by kernel_rfl) (fun _ _ _ h => h) (Or.inl ⟨by rfl, ?_⟩) (by assumption) ?_
  rotate_left
  · (intro w hSw; (try dsimp only at hSw); go_simp); (try with_reducible rfl)
  try simp only [Act.put, List.setIfInBounds_toArray, List.set_cons_zero, List.set_cons_succ]
  refine wpAnyH_done (by kernel_rfl) ?_ _
  clear hHeld2
  replace hB := bthen hB hbz3
  obtain ⟨w1, hw1⟩ : ∃ v, v = wz3 := ⟨_, rfl⟩
  rw [← hw1] at hB iB iZ hup hus ⊢
  clear hw1
  clear x0 x1 x2 x3 x4 x5 iA
  have x0 := iZ.cell (j := 0) (v := .int .i8 z0) rfl
  have x1 := iZ.cell (j := 1) (v := .int .i8 z1) rfl
  obtain ⟨xp, cp, rfl, _⟩ := id hup
  obtain ⟨xs, cs, rfl, _⟩ := id hus
  go_upto_region 3 with fail
  obtain ⟨W4, hW4⟩ : ∃ v, v = World.alloc w1 (Obj.cells #[.int .i64 zr, .int .i64 zi] 59) := ⟨_, rfl⟩
  have kW4 : Below w1.heap.size w1 W4 := by rw [hW4]; exact below_new _ _
  have iW4 : Blk W4 (w1.heap.size) 59 [.int .i64 zr, .int .i64 zi] := by rw [hW4]; exact Blk.new _ _ _
  have sW4 : W4.heap.size = w1.heap.size + 1 := by rw [hW4]; simp
  rw [← hW4]
  clear hW4
  clear sW4 x0 x1
  have iG := iW4
  replace hB := bthen hB kW4
  replace iB := iB.carry kW4
  replace iZ := iZ.carry kW4
  replace hup := hup.carry kW4
  replace hus := hus.carry kW4
  clear kW4 iW4 hzr hzi k0 k1
  generalize w1.heap.size = BG at iG ⊢
  by_cases hp0 : P.length = 0
  · have d1 : (P.length : Int) = 0 := by omega
    have d2 : ((P.length : Int) == 0) = true := by rw [beq_iff_eq]; exact d1
    go_wp2_with fail
    refine (awake_any W4 (hq.below hB hq.size) (hpw.below hB)).mono ?_
    rintro e y4 ⟨rfl, hl⟩
    go_wp2
    go_ret
    exact ⟨rfl, bthen hB hl⟩
  · by_cases hs0 : S.length = 0
    · have d1 : ((P.length : Int) == 0) = false := by rw [beq_eq_false_iff_ne]; omega
      have d2 : ((S.length : Int) == 0) = true := by rw [beq_iff_eq]; omega
      go_wp2_with fail
      refine (awake_any W4 (hq.below hB hq.size) (hpw.below hB)).mono ?_
      rintro e y4 ⟨rfl, hl⟩
      go_wp2
      go_ret
      exact ⟨rfl, bthen hB hl⟩
    · have d1 : ((P.length : Int) == 0) = false := by rw [beq_eq_false_iff_ne]; omega
      have d2 : ((S.length : Int) == 0) = false := by rw [beq_eq_false_iff_ne]; omega
      have hP := HOP.out hp0
      have hS := HOS.out hs0
      obtain ⟨v1, v2⟩ := hP.value BR.out BI.out
      obtain ⟨v3, v4⟩ := hS.value BR.out BI.out
      obtain ⟨X1, hX1⟩ : ∃ x, x = wrap64 (hor zr zi P).1 := ⟨_, rfl⟩
      obtain ⟨X2, hX2⟩ : ∃ x, x = wrap64 (hor zr zi P).2 := ⟨_, rfl⟩
      obtain ⟨Y1, hY1⟩ : ∃ x, x = wrap64 (hor zr zi S).1 := ⟨_, rfl⟩
      obtain ⟨Y2, hY2⟩ : ∃ x, x = wrap64 (hor zr zi S).2 := ⟨_, rfl⟩
      rw [← hX1, ← hX2] at v2
      rw [← hY1, ← hY2] at v4
      have tvp := fun (u : Value) (W : World) (h : Ints W u P) => Value_any u P zr zi W h (by have := HLP.out; omega)
      rw [v1, v2] at tvp
      have tvs := fun (u : Value) (W : World) (h : Ints W u S) => Value_any u S zr zi W h (by have := HLS.out; omega)
      rw [v3, v4] at tvs
      have hpv := prod_value hP hS zr zi
      have hsv := sum_value hP hS zr zi
      have hsz := fun h => sum_zero hP hS zr zi h
      rw [← hX1, ← hX2, ← hY1, ← hY2] at hpv hsv hsz
      have TVP := Lib.hid tvp
      have TVS := Lib.hid tvs
      have HPV := Lib.hid hpv
      have HSV := Lib.hid hsv
      have HSZ := Lib.hid hsz
      have HP := Lib.hid hP
      have HS := Lib.hid hS
      clear tvp tvs hpv hsv hsz hX1 hX2 hY1 hY2 v1 v2 v3 v4 hP hS
      have g0 := iG.cell (j := 0) (v := .int .i64 zr) rfl
      have g1 := iG.cell (j := 1) (v := .int .i64 zi) rfl
      go_upto_region 5 with fail
      clear d1 d2
      go_cut [10, 11] from 59 to 64 (fun v ve wn => ∃ B, v = .pointer (some ⟨B, 0, none⟩) ∧ Blk wn B 59 [.int .i64 X1, .int .i64 X2] ∧ ve = .int .i64 0 ∧ Below W4.heap.size W4 wn)
      case first =>
        refine wp_region_held_drew (S := (fun w' => w'.cell? ⟨BG, 0, none⟩ = some (.int .i64 zr) ∧ w'.cell? ⟨BG, 1, none⟩ = some (.int .i64 zi))) (by kernel_rfl) ⟨cellb g0 (Below.refl _ _).drew, cellb g1 (Below.refl _ _).drew⟩ (fun hHeld0 => ?_)
        obtain ⟨wzd, hwz⟩ : ∃ v, v = W4.drew := ⟨_, rfl⟩
        rw [← hwz] at hHeld0 ⊢
        have hbzd : Below W4.heap.size W4 wzd := by rw [hwz]; exact (Below.refl _ _).drew
        have hlzd : Below W4.heap.size W4 wzd := by rw [hwz]; exact (Below.refl _ _).drew
        clear hwz hlzd
        refine wpAnyH_take (i := 0) (oi := { dst := some 59, op := Op.move (Operand.tmp 7), type := 22, pos := "law.go:311", after := #[], guard := none }) (v := ?_) rfl (by kernel_rfl) (by kernel_rfl) (by kernel_rfl) (fun _ _ _ h => h) (Or.inl ⟨by rfl, ?_⟩) (by assumption) ?_
        rotate_left
        · (intro w hSw; (try dsimp only at hSw); go_simp); (try with_reducible rfl)
        try simp only [Act.put, List.setIfInBounds_toArray, List.set_cons_zero, List.set_cons_succ]
        refine wpAnyH_take (i := 2) (oi := { dst := some 61, op := Op.load 59 (Operand.tmp 9), type := 59, pos := "law.go:311", after := #[], guard := none }) (v := ?_) rfl (by kernel_rfl) (by kernel_rfl) (by kernel_rfl) (fun _ _ _ h => h) (Or.inl ⟨by rfl, ?_⟩) (by assumption) ?_
        rotate_left
        · (intro w hSw; (try dsimp only at hSw); go_simp); (try with_reducible rfl)
        try simp only [Act.put, List.setIfInBounds_toArray, List.set_cons_zero, List.set_cons_succ]
        refine wpAnyH_ready (rs := [1, 7]) (by kernel_rfl) (by simp) ?_
        refine (AllReadyH.cons (o := { dst := some 60, op := Op.call { callee := Callee.value (Operand.func 20), args := #[Operand.tmp 59], argTypes := #[22] }, type := 26, pos := "law.go:311", after := #[{ on := 0, ground := Ground.data }], guard := none }) rfl (fun K hK => ?_) (AllReadyH.cons (o := { dst := some 10, op := Op.alloc 59, type := 0, pos := "law.go:311", after := #[], guard := none }) rfl (fun K hK => ?_) AllReadyH.nil))
        · go_simp
          refine (polyL_any _ P wzd (hup.carry hbzd) (by have := HLP.out; omega)).mono ?_
          rintro e wz1 ⟨⟨u1, rfl, hu1⟩, hl⟩
          (try go_wp2_with fail)
          have hbz1 := bthen hbzd hl
          clear hl
          refine hK.out _ _ ⟨cellb g0 hbz1, cellb g1 hbz1⟩ (fun hHeld1 => ?_)
          clear hK K hHeld0
          try simp only [Act.put, List.setIfInBounds_toArray, List.set_cons_zero, List.set_cons_succ]
          refine wpAnyH_ready (rs := [3, 7]) (by kernel_rfl) (by simp) ?_
          refine (AllReadyH.cons (o := { dst := some 62, op := Op.call { callee := Callee.value (Operand.func 61), args := #[Operand.tmp 60, Operand.tmp 61], argTypes := #[26, 59] }, type := 106, pos := "law.go:311", after := #[{ on := 1, ground := Ground.data }, { on := 2, ground := Ground.data }, { on := 1, ground := Ground.chain }], guard := none }) rfl (fun K hK => ?_) (AllReadyH.cons (o := { dst := some 10, op := Op.alloc 59, type := 0, pos := "law.go:311", after := #[], guard := none }) rfl (fun K hK => ?_) AllReadyH.nil))
          · go_simp
            refine (TVP.out u1 wz1 hu1).mono ?_
            rintro e wz3 ⟨rfl, hl⟩
            (try go_wp2_with fail)
            have hbz3 := bthen hbz1 hl
            have hu1 := hu1.carry hl
            clear hl
            refine hK.out _ _ ⟨cellb g0 hbz3, cellb g1 hbz3⟩ (fun hHeld2 => ?_)
            clear hK K hHeld1
            try simp only [Act.put, List.setIfInBounds_toArray, List.set_cons_zero, List.set_cons_succ]
            refine wpAnyH_take (i := 4) (oi := { dst := some 58, op := Op.move (Operand.tmp 62), type := 106, pos := "law.go:311", after := #[{ on := 3, ground := Ground.data }], guard := none }) (v := ?_) rfl (by kernel_rfl) (by kernel_rfl) (by kernel_rfl) (fun _ _ _ h => h) (Or.inl ⟨by rfl, ?_⟩) (by assumption) ?_
            rotate_left
            · (intro w hSw; (try dsimp only at hSw); go_simp); (try with_reducible rfl)
            try simp only [Act.put, List.setIfInBounds_toArray, List.set_cons_zero, List.set_cons_succ]
            refine wpAnyH_take (i := 5) (oi := { dst := some 63, op := Op.extract (Operand.tmp 58) 0, type := 59, pos := "law.go:311", after := #[{ on := 4, ground := Ground.data }], guard := none }) (v := ?_) rfl (by kernel_rfl) (by kernel_rfl) (by kernel_rfl) (fun _ _ _ h => h) (Or.inl ⟨by rfl, ?_⟩) (by assumption) ?_
            rotate_left
            · (intro w hSw; (try dsimp only at hSw); go_simp); (try with_reducible rfl)
            try simp only [Act.put, List.setIfInBounds_toArray, List.set_cons_zero, List.set_cons_succ]
            refine wpAnyH_take (i := 6) (oi := { dst := some 64, op := Op.extract (Operand.tmp 58) 1, type := 27, pos := "law.go:311", after := #[{ on := 4, ground := Ground.data }, { on := 8, ground := Ground.gcOnly Departure.lateStores }], guard := none }) (v := ?_) rfl (by kernel_rfl) (by kernel_rfl) (by kernel_rfl) (fun _ _ _ h => h) (Or.inl ⟨by rfl, ?_⟩) (by assumption) ?_
            rotate_left
            · (intro w hSw; (try dsimp only at hSw); go_simp); (try with_reducible rfl)
            try simp only [Act.put, List.setIfInBounds_toArray, List.set_cons_zero, List.set_cons_succ]
            refine wpAnyH_ready (rs := [7]) (by kernel_rfl) (by simp) ?_
            refine (AllReadyH.cons (o := { dst := some 10, op := Op.alloc 59, type := 0, pos := "law.go:311", after := #[], guard := none }) rfl (fun K hK => ?_) AllReadyH.nil)
            go_simp
            obtain ⟨wz7, hwz⟩ : ∃ v, v = wz3.alloc (Obj.cells #[.int .i64 0, .int .i64 0] 59) := ⟨_, rfl⟩
            rw [← hwz]
            have hl : Below wz3.heap.size wz3 wz7 := by rw [hwz]; exact below_new _ _
            have hbz7 := bthen hbz3 hl
            have bx : Blk wz7 wz3.heap.size 59 [.int .i64 0, .int .i64 0] := by rw [hwz]; exact Blk.new _ _ _
            have hBs : W4.heap.size ≤ wz3.heap.size := (hbz3).size
            generalize wz3.heap.size = B at bx hBs ⊢
            clear hwz
            have hu1 := hu1.carry hl
            clear hl
            refine hK.out _ _ ⟨cellb g0 hbz7, cellb g1 hbz7⟩ (fun hHeld3 => ?_)
            clear hK K hHeld2
            try simp only [Act.put, List.setIfInBounds_toArray, List.set_cons_zero, List.set_cons_succ]
            refine wpAnyH_ready (rs := [8]) (by kernel_rfl) (by simp) ?_
            refine (AllReadyH.cons (o := { dst := none, op := Op.store 59 (Operand.tmp 10) (Operand.tmp 63), type := 0, pos := "law.go:311", after := #[{ on := 7, ground := Ground.data }, { on := 5, ground := Ground.data }, { on := 3, ground := Ground.chain }, { on := 0, ground := Ground.phase }, { on := 1, ground := Ground.phase }, { on := 2, ground := Ground.phase }, { on := 3, ground := Ground.phase }, { on := 4, ground := Ground.phase }, { on := 5, ground := Ground.phase }, { on := 6, ground := Ground.textOnly Departure.lateStores }, { on := 7, ground := Ground.phase }], guard := none }) rfl (fun K hK => ?_) AllReadyH.nil)
            have q0 := bx.cell (j := 0) (v := .int .i64 0) rfl
            have q1 := bx.cell (j := 1) (v := .int .i64 0) rfl
            have f0 := bx.frozen 0
            have f1 := bx.frozen 1
            go_simp
            obtain ⟨wz8, hwz⟩ : ∃ v, v = (wz7.setCell ⟨B, 0, none⟩ (.int .i64 X1)).setCell ⟨B, 1, none⟩ (.int .i64 X2) := ⟨_, rfl⟩
            rw [← hwz]
            have hbz8 : Below W4.heap.size W4 wz8 := by rw [hwz]; exact (hbz7.setCell hBs _).setCell hBs _
            have bx := bx.set2 (.int .i64 X1) (.int .i64 X2)
            rw [← hwz] at bx
            clear q0 q1 f0 f1
            clear hwz
            refine hK.out _ _ ⟨cellb g0 hbz8, cellb g1 hbz8⟩ (fun hHeld4 => ?_)
            clear hK K hHeld3
            try simp only [Act.put, List.setIfInBounds_toArray, List.set_cons_zero, List.set_cons_succ]
            refine wpAnyH_take (i := 9) (oi := { dst := some 11, op := Op.assign (Operand.tmp 64), type := 27, pos := "law.go:311", after := #[{ on := 6, ground := Ground.data }, { on := 8, ground := Ground.chain }, { on := 0, ground := Ground.phase }, { on := 1, ground := Ground.phase }, { on := 2, ground := Ground.phase }, { on := 3, ground := Ground.phase }, { on := 4, ground := Ground.phase }, { on := 5, ground := Ground.phase }, { on := 6, ground := Ground.phase }, { on := 7, ground := Ground.phase }, { on := 8, ground := Ground.phase }], guard := none }) (v := ?_) rfl (by kernel_rfl) (by kernel_rfl) (by kernel_rfl) (fun _ _ _ h => h) (Or.inl ⟨by rfl, ?_⟩) (by assumption) ?_
            rotate_left
            · (intro w hSw; (try dsimp only at hSw); go_simp); (try with_reducible rfl)
            try simp only [Act.put, List.setIfInBounds_toArray, List.set_cons_zero, List.set_cons_succ]
            refine wpAnyH_done (by kernel_rfl) ?_ _
            clear hHeld4
            go_wp2_with fail
            go_meet
            exact ⟨B, rfl, bx, rfl, hbz8⟩
          · go_simp
            obtain ⟨wz7, hwz⟩ : ∃ v, v = wz1.alloc (Obj.cells #[.int .i64 0, .int .i64 0] 59) := ⟨_, rfl⟩
            rw [← hwz]
            have hl : Below wz1.heap.size wz1 wz7 := by rw [hwz]; exact below_new _ _
            have hbz7 := bthen hbz1 hl
            have bx : Blk wz7 wz1.heap.size 59 [.int .i64 0, .int .i64 0] := by rw [hwz]; exact Blk.new _ _ _
            have hBs : W4.heap.size ≤ wz1.heap.size := (hbz1).size
            generalize wz1.heap.size = B at bx hBs ⊢
            clear hwz
            have hu1 := hu1.carry hl
            clear hl
            refine hK.out _ _ ⟨cellb g0 hbz7, cellb g1 hbz7⟩ (fun hHeld2 => ?_)
            clear hK K hHeld1
            try simp only [Act.put, List.setIfInBounds_toArray, List.set_cons_zero, List.set_cons_succ]
            refine wpAnyH_ready (rs := [3]) (by kernel_rfl) (by simp) ?_
            refine (AllReadyH.cons (o := { dst := some 62, op := Op.call { callee := Callee.value (Operand.func 61), args := #[Operand.tmp 60, Operand.tmp 61], argTypes := #[26, 59] }, type := 106, pos := "law.go:311", after := #[{ on := 1, ground := Ground.data }, { on := 2, ground := Ground.data }, { on := 1, ground := Ground.chain }], guard := none }) rfl (fun K hK => ?_) AllReadyH.nil)
            go_simp
            refine (TVP.out u1 wz7 hu1).mono ?_
            rintro e wz3 ⟨rfl, hl⟩
            (try go_wp2_with fail)
            have hbz3 := bthen hbz7 hl
            have hu1 := hu1.carry hl
            have bx := bx.carry hl
            clear hl
            refine hK.out _ _ ⟨cellb g0 hbz3, cellb g1 hbz3⟩ (fun hHeld3 => ?_)
            clear hK K hHeld2
            try simp only [Act.put, List.setIfInBounds_toArray, List.set_cons_zero, List.set_cons_succ]
            refine wpAnyH_take (i := 4) (oi := { dst := some 58, op := Op.move (Operand.tmp 62), type := 106, pos := "law.go:311", after := #[{ on := 3, ground := Ground.data }], guard := none }) (v := ?_) rfl (by kernel_rfl) (by kernel_rfl) (by kernel_rfl) (fun _ _ _ h => h) (Or.inl ⟨by rfl, ?_⟩) (by assumption) ?_
            rotate_left
            · (intro w hSw; (try dsimp only at hSw); go_simp); (try with_reducible rfl)
            try simp only [Act.put, List.setIfInBounds_toArray, List.set_cons_zero, List.set_cons_succ]
            refine wpAnyH_take (i := 5) (oi := { dst := some 63, op := Op.extract (Operand.tmp 58) 0, type := 59, pos := "law.go:311", after := #[{ on := 4, ground := Ground.data }], guard := none }) (v := ?_) rfl (by kernel_rfl) (by kernel_rfl) (by kernel_rfl) (fun _ _ _ h => h) (Or.inl ⟨by rfl, ?_⟩) (by assumption) ?_
            rotate_left
            · (intro w hSw; (try dsimp only at hSw); go_simp); (try with_reducible rfl)
            try simp only [Act.put, List.setIfInBounds_toArray, List.set_cons_zero, List.set_cons_succ]
            refine wpAnyH_take (i := 6) (oi := { dst := some 64, op := Op.extract (Operand.tmp 58) 1, type := 27, pos := "law.go:311", after := #[{ on := 4, ground := Ground.data }, { on := 8, ground := Ground.gcOnly Departure.lateStores }], guard := none }) (v := ?_) rfl (by kernel_rfl) (by kernel_rfl) (by kernel_rfl) (fun _ _ _ h => h) (Or.inl ⟨by rfl, ?_⟩) (by assumption) ?_
            rotate_left
            · (intro w hSw; (try dsimp only at hSw); go_simp); (try with_reducible rfl)
            try simp only [Act.put, List.setIfInBounds_toArray, List.set_cons_zero, List.set_cons_succ]
            refine wpAnyH_ready (rs := [8]) (by kernel_rfl) (by simp) ?_
            refine (AllReadyH.cons (o := { dst := none, op := Op.store 59 (Operand.tmp 10) (Operand.tmp 63), type := 0, pos := "law.go:311", after := #[{ on := 7, ground := Ground.data }, { on := 5, ground := Ground.data }, { on := 3, ground := Ground.chain }, { on := 0, ground := Ground.phase }, { on := 1, ground := Ground.phase }, { on := 2, ground := Ground.phase }, { on := 3, ground := Ground.phase }, { on := 4, ground := Ground.phase }, { on := 5, ground := Ground.phase }, { on := 6, ground := Ground.textOnly Departure.lateStores }, { on := 7, ground := Ground.phase }], guard := none }) rfl (fun K hK => ?_) AllReadyH.nil)
            have q0 := bx.cell (j := 0) (v := .int .i64 0) rfl
            have q1 := bx.cell (j := 1) (v := .int .i64 0) rfl
            have f0 := bx.frozen 0
            have f1 := bx.frozen 1
            go_simp
            obtain ⟨wz8, hwz⟩ : ∃ v, v = (wz3.setCell ⟨B, 0, none⟩ (.int .i64 X1)).setCell ⟨B, 1, none⟩ (.int .i64 X2) := ⟨_, rfl⟩
            rw [← hwz]
            have hbz8 : Below W4.heap.size W4 wz8 := by rw [hwz]; exact (hbz3.setCell hBs _).setCell hBs _
            have bx := bx.set2 (.int .i64 X1) (.int .i64 X2)
            rw [← hwz] at bx
            clear q0 q1 f0 f1
            clear hwz
            refine hK.out _ _ ⟨cellb g0 hbz8, cellb g1 hbz8⟩ (fun hHeld4 => ?_)
            clear hK K hHeld3
            try simp only [Act.put, List.setIfInBounds_toArray, List.set_cons_zero, List.set_cons_succ]
            refine wpAnyH_take (i := 9) (oi := { dst := some 11, op := Op.assign (Operand.tmp 64), type := 27, pos := "law.go:311", after := #[{ on := 6, ground := Ground.data }, { on := 8, ground := Ground.chain }, { on := 0, ground := Ground.phase }, { on := 1, ground := Ground.phase }, { on := 2, ground := Ground.phase }, { on := 3, ground := Ground.phase }, { on := 4, ground := Ground.phase }, { on := 5, ground := Ground.phase }, { on := 6, ground := Ground.phase }, { on := 7, ground := Ground.phase }, { on := 8, ground := Ground.phase }], guard := none }) (v := ?_) rfl (by kernel_rfl) (by kernel_rfl) (by kernel_rfl) (fun _ _ _ h => h) (Or.inl ⟨by rfl, ?_⟩) (by assumption) ?_
            rotate_left
            · (intro w hSw; (try dsimp only at hSw); go_simp); (try with_reducible rfl)
            try simp only [Act.put, List.setIfInBounds_toArray, List.set_cons_zero, List.set_cons_succ]
            refine wpAnyH_done (by kernel_rfl) ?_ _
            clear hHeld4
            go_wp2_with fail
            go_meet
            exact ⟨B, rfl, bx, rfl, hbz8⟩
        · go_simp
          obtain ⟨wz7, hwz⟩ : ∃ v, v = wzd.alloc (Obj.cells #[.int .i64 0, .int .i64 0] 59) := ⟨_, rfl⟩
          rw [← hwz]
          have hl : Below wzd.heap.size wzd wz7 := by rw [hwz]; exact below_new _ _
          have hbz7 := bthen hbzd hl
          have bx : Blk wz7 wzd.heap.size 59 [.int .i64 0, .int .i64 0] := by rw [hwz]; exact Blk.new _ _ _
          have hBs : W4.heap.size ≤ wzd.heap.size := (hbzd).size
          generalize wzd.heap.size = B at bx hBs ⊢
          clear hwz
          clear hl
          refine hK.out _ _ ⟨cellb g0 hbz7, cellb g1 hbz7⟩ (fun hHeld1 => ?_)
          clear hK K hHeld0
          try simp only [Act.put, List.setIfInBounds_toArray, List.set_cons_zero, List.set_cons_succ]
          refine wpAnyH_ready (rs := [1]) (by kernel_rfl) (by simp) ?_
          refine (AllReadyH.cons (o := { dst := some 60, op := Op.call { callee := Callee.value (Operand.func 20), args := #[Operand.tmp 59], argTypes := #[22] }, type := 26, pos := "law.go:311", after := #[{ on := 0, ground := Ground.data }], guard := none }) rfl (fun K hK => ?_) AllReadyH.nil)
          go_simp
          refine (polyL_any _ P wz7 (hup.carry hbz7) (by have := HLP.out; omega)).mono ?_
          rintro e wz1 ⟨⟨u1, rfl, hu1⟩, hl⟩
          (try go_wp2_with fail)
          have hbz1 := bthen hbz7 hl
          have bx := bx.carry hl
          clear hl
          refine hK.out _ _ ⟨cellb g0 hbz1, cellb g1 hbz1⟩ (fun hHeld2 => ?_)
          clear hK K hHeld1
          try simp only [Act.put, List.setIfInBounds_toArray, List.set_cons_zero, List.set_cons_succ]
          refine wpAnyH_ready (rs := [3]) (by kernel_rfl) (by simp) ?_
          refine (AllReadyH.cons (o := { dst := some 62, op := Op.call { callee := Callee.value (Operand.func 61), args := #[Operand.tmp 60, Operand.tmp 61], argTypes := #[26, 59] }, type := 106, pos := "law.go:311", after := #[{ on := 1, ground := Ground.data }, { on := 2, ground := Ground.data }, { on := 1, ground := Ground.chain }], guard := none }) rfl (fun K hK => ?_) AllReadyH.nil)
          go_simp
          refine (TVP.out u1 wz1 hu1).mono ?_
          rintro e wz3 ⟨rfl, hl⟩
          (try go_wp2_with fail)
          have hbz3 := bthen hbz1 hl
          have bx := bx.carry hl
          have hu1 := hu1.carry hl
          clear hl
          refine hK.out _ _ ⟨cellb g0 hbz3, cellb g1 hbz3⟩ (fun hHeld3 => ?_)
          clear hK K hHeld2
          try simp only [Act.put, List.setIfInBounds_toArray, List.set_cons_zero, List.set_cons_succ]
          refine wpAnyH_take (i := 4) (oi := { dst := some 58, op := Op.move (Operand.tmp 62), type := 106, pos := "law.go:311", after := #[{ on := 3, ground := Ground.data }], guard := none }) (v := ?_) rfl (by kernel_rfl) (by kernel_rfl) (by kernel_rfl) (fun _ _ _ h => h) (Or.inl ⟨by rfl, ?_⟩) (by assumption) ?_
          rotate_left
          · (intro w hSw; (try dsimp only at hSw); go_simp); (try with_reducible rfl)
          try simp only [Act.put, List.setIfInBounds_toArray, List.set_cons_zero, List.set_cons_succ]
          refine wpAnyH_take (i := 5) (oi := { dst := some 63, op := Op.extract (Operand.tmp 58) 0, type := 59, pos := "law.go:311", after := #[{ on := 4, ground := Ground.data }], guard := none }) (v := ?_) rfl (by kernel_rfl) (by kernel_rfl) (by kernel_rfl) (fun _ _ _ h => h) (Or.inl ⟨by rfl, ?_⟩) (by assumption) ?_
          rotate_left
          · (intro w hSw; (try dsimp only at hSw); go_simp); (try with_reducible rfl)
          try simp only [Act.put, List.setIfInBounds_toArray, List.set_cons_zero, List.set_cons_succ]
          refine wpAnyH_take (i := 6) (oi := { dst := some 64, op := Op.extract (Operand.tmp 58) 1, type := 27, pos := "law.go:311", after := #[{ on := 4, ground := Ground.data }, { on := 8, ground := Ground.gcOnly Departure.lateStores }], guard := none }) (v := ?_) rfl (by kernel_rfl) (by kernel_rfl) (by kernel_rfl) (fun _ _ _ h => h) (Or.inl ⟨by rfl, ?_⟩) (by assumption) ?_
          rotate_left
          · (intro w hSw; (try dsimp only at hSw); go_simp); (try with_reducible rfl)
          try simp only [Act.put, List.setIfInBounds_toArray, List.set_cons_zero, List.set_cons_succ]
          refine wpAnyH_ready (rs := [8]) (by kernel_rfl) (by simp) ?_
          refine (AllReadyH.cons (o := { dst := none, op := Op.store 59 (Operand.tmp 10) (Operand.tmp 63), type := 0, pos := "law.go:311", after := #[{ on := 7, ground := Ground.data }, { on := 5, ground := Ground.data }, { on := 3, ground := Ground.chain }, { on := 0, ground := Ground.phase }, { on := 1, ground := Ground.phase }, { on := 2, ground := Ground.phase }, { on := 3, ground := Ground.phase }, { on := 4, ground := Ground.phase }, { on := 5, ground := Ground.phase }, { on := 6, ground := Ground.textOnly Departure.lateStores }, { on := 7, ground := Ground.phase }], guard := none }) rfl (fun K hK => ?_) AllReadyH.nil)
          have q0 := bx.cell (j := 0) (v := .int .i64 0) rfl
          have q1 := bx.cell (j := 1) (v := .int .i64 0) rfl
          have f0 := bx.frozen 0
          have f1 := bx.frozen 1
          go_simp
          obtain ⟨wz8, hwz⟩ : ∃ v, v = (wz3.setCell ⟨B, 0, none⟩ (.int .i64 X1)).setCell ⟨B, 1, none⟩ (.int .i64 X2) := ⟨_, rfl⟩
          rw [← hwz]
          have hbz8 : Below W4.heap.size W4 wz8 := by rw [hwz]; exact (hbz3.setCell hBs _).setCell hBs _
          have bx := bx.set2 (.int .i64 X1) (.int .i64 X2)
          rw [← hwz] at bx
          clear q0 q1 f0 f1
          clear hwz
          refine hK.out _ _ ⟨cellb g0 hbz8, cellb g1 hbz8⟩ (fun hHeld4 => ?_)
          clear hK K hHeld3
          try simp only [Act.put, List.setIfInBounds_toArray, List.set_cons_zero, List.set_cons_succ]
          refine wpAnyH_take (i := 9) (oi := { dst := some 11, op := Op.assign (Operand.tmp 64), type := 27, pos := "law.go:311", after := #[{ on := 6, ground := Ground.data }, { on := 8, ground := Ground.chain }, { on := 0, ground := Ground.phase }, { on := 1, ground := Ground.phase }, { on := 2, ground := Ground.phase }, { on := 3, ground := Ground.phase }, { on := 4, ground := Ground.phase }, { on := 5, ground := Ground.phase }, { on := 6, ground := Ground.phase }, { on := 7, ground := Ground.phase }, { on := 8, ground := Ground.phase }], guard := none }) (v := ?_) rfl (by kernel_rfl) (by kernel_rfl) (by kernel_rfl) (fun _ _ _ h => h) (Or.inl ⟨by rfl, ?_⟩) (by assumption) ?_
          rotate_left
          · (intro w hSw; (try dsimp only at hSw); go_simp); (try with_reducible rfl)
          try simp only [Act.put, List.setIfInBounds_toArray, List.set_cons_zero, List.set_cons_succ]
          refine wpAnyH_done (by kernel_rfl) ?_ _
          clear hHeld4
          go_wp2_with fail
          go_meet
          exact ⟨B, rfl, bx, rfl, hbz8⟩
      case rest =>
        obtain ⟨BX, rfl, iX, rfl, hl⟩ := hcut
        obtain ⟨w5, rfl⟩ : ∃ v, v = wc := ⟨_, rfl⟩
        clear g0 g1
        replace hB := bthen hB hl
        replace iB := iB.carry hl
        replace iZ := iZ.carry hl
        replace iG := iG.carry hl
        replace hup := hup.carry hl
        replace hus := hus.carry hl
        clear hl
        have g0 := iG.cell (j := 0) (v := .int .i64 zr) rfl
        have g1 := iG.cell (j := 1) (v := .int .i64 zi) rfl
        go_upto_region 6 with fail
        go_cut [12, 13] from 66 to 71 (fun v ve wn => ∃ B, v = .pointer (some ⟨B, 0, none⟩) ∧ Blk wn B 59 [.int .i64 Y1, .int .i64 Y2] ∧ ve = .int .i64 0 ∧ Below w5.heap.size w5 wn)
        case first =>
          refine wp_region_held_drew (S := (fun w' => w'.cell? ⟨BG, 0, none⟩ = some (.int .i64 zr) ∧ w'.cell? ⟨BG, 1, none⟩ = some (.int .i64 zi))) (by kernel_rfl) ⟨cellb g0 (Below.refl _ _).drew, cellb g1 (Below.refl _ _).drew⟩ (fun hHeld0 => ?_)
          obtain ⟨wzd, hwz⟩ : ∃ v, v = w5.drew := ⟨_, rfl⟩
          rw [← hwz] at hHeld0 ⊢
          have hbzd : Below w5.heap.size w5 wzd := by rw [hwz]; exact (Below.refl _ _).drew
          have hlzd : Below w5.heap.size w5 wzd := by rw [hwz]; exact (Below.refl _ _).drew
          clear hwz hlzd
          refine wpAnyH_take (i := 0) (oi := { dst := some 66, op := Op.move (Operand.tmp 8), type := 22, pos := "law.go:312", after := #[], guard := none }) (v := ?_) rfl (by kernel_rfl) (by kernel_rfl) (by kernel_rfl) (fun _ _ _ h => h) (Or.inl ⟨by rfl, ?_⟩) (by assumption) ?_
          rotate_left
          · (intro w hSw; (try dsimp only at hSw); go_simp); (try with_reducible rfl)
          try simp only [Act.put, List.setIfInBounds_toArray, List.set_cons_zero, List.set_cons_succ]
          refine wpAnyH_take (i := 2) (oi := { dst := some 68, op := Op.load 59 (Operand.tmp 9), type := 59, pos := "law.go:312", after := #[], guard := none }) (v := ?_) rfl (by kernel_rfl) (by kernel_rfl) (by kernel_rfl) (fun _ _ _ h => h) (Or.inl ⟨by rfl, ?_⟩) (by assumption) ?_
          rotate_left
          · (intro w hSw; (try dsimp only at hSw); go_simp); (try with_reducible rfl)
          try simp only [Act.put, List.setIfInBounds_toArray, List.set_cons_zero, List.set_cons_succ]
          refine wpAnyH_ready (rs := [1, 7]) (by kernel_rfl) (by simp) ?_
          refine (AllReadyH.cons (o := { dst := some 67, op := Op.call { callee := Callee.value (Operand.func 20), args := #[Operand.tmp 66], argTypes := #[22] }, type := 26, pos := "law.go:312", after := #[{ on := 0, ground := Ground.data }], guard := none }) rfl (fun K hK => ?_) (AllReadyH.cons (o := { dst := some 12, op := Op.alloc 59, type := 0, pos := "law.go:312", after := #[], guard := none }) rfl (fun K hK => ?_) AllReadyH.nil))
          · go_simp
            refine (polyL_any _ S wzd (hus.carry hbzd) (by have := HLS.out; omega)).mono ?_
            rintro e wz1 ⟨⟨u1, rfl, hu1⟩, hl⟩
            (try go_wp2_with fail)
            have hbz1 := bthen hbzd hl
            clear hl
            refine hK.out _ _ ⟨cellb g0 hbz1, cellb g1 hbz1⟩ (fun hHeld1 => ?_)
            clear hK K hHeld0
            try simp only [Act.put, List.setIfInBounds_toArray, List.set_cons_zero, List.set_cons_succ]
            refine wpAnyH_ready (rs := [3, 7]) (by kernel_rfl) (by simp) ?_
            refine (AllReadyH.cons (o := { dst := some 69, op := Op.call { callee := Callee.value (Operand.func 61), args := #[Operand.tmp 67, Operand.tmp 68], argTypes := #[26, 59] }, type := 106, pos := "law.go:312", after := #[{ on := 1, ground := Ground.data }, { on := 2, ground := Ground.data }, { on := 1, ground := Ground.chain }], guard := none }) rfl (fun K hK => ?_) (AllReadyH.cons (o := { dst := some 12, op := Op.alloc 59, type := 0, pos := "law.go:312", after := #[], guard := none }) rfl (fun K hK => ?_) AllReadyH.nil))
            · go_simp
              refine (TVS.out u1 wz1 hu1).mono ?_
              rintro e wz3 ⟨rfl, hl⟩
              (try go_wp2_with fail)
              have hbz3 := bthen hbz1 hl
              have hu1 := hu1.carry hl
              clear hl
              refine hK.out _ _ ⟨cellb g0 hbz3, cellb g1 hbz3⟩ (fun hHeld2 => ?_)
              clear hK K hHeld1
              try simp only [Act.put, List.setIfInBounds_toArray, List.set_cons_zero, List.set_cons_succ]
              refine wpAnyH_take (i := 4) (oi := { dst := some 65, op := Op.move (Operand.tmp 69), type := 106, pos := "law.go:312", after := #[{ on := 3, ground := Ground.data }], guard := none }) (v := ?_) rfl (by kernel_rfl) (by kernel_rfl) (by kernel_rfl) (fun _ _ _ h => h) (Or.inl ⟨by rfl, ?_⟩) (by assumption) ?_
              rotate_left
              · (intro w hSw; (try dsimp only at hSw); go_simp); (try with_reducible rfl)
              try simp only [Act.put, List.setIfInBounds_toArray, List.set_cons_zero, List.set_cons_succ]
              refine wpAnyH_take (i := 5) (oi := { dst := some 70, op := Op.extract (Operand.tmp 65) 0, type := 59, pos := "law.go:312", after := #[{ on := 4, ground := Ground.data }], guard := none }) (v := ?_) rfl (by kernel_rfl) (by kernel_rfl) (by kernel_rfl) (fun _ _ _ h => h) (Or.inl ⟨by rfl, ?_⟩) (by assumption) ?_
              rotate_left
              · (intro w hSw; (try dsimp only at hSw); go_simp); (try with_reducible rfl)
              try simp only [Act.put, List.setIfInBounds_toArray, List.set_cons_zero, List.set_cons_succ]
              refine wpAnyH_take (i := 6) (oi := { dst := some 71, op := Op.extract (Operand.tmp 65) 1, type := 27, pos := "law.go:312", after := #[{ on := 4, ground := Ground.data }, { on := 8, ground := Ground.gcOnly Departure.lateStores }], guard := none }) (v := ?_) rfl (by kernel_rfl) (by kernel_rfl) (by kernel_rfl) (fun _ _ _ h => h) (Or.inl ⟨by rfl, ?_⟩) (by assumption) ?_
              rotate_left
              · (intro w hSw; (try dsimp only at hSw); go_simp); (try with_reducible rfl)
              try simp only [Act.put, List.setIfInBounds_toArray, List.set_cons_zero, List.set_cons_succ]
              refine wpAnyH_ready (rs := [7]) (by kernel_rfl) (by simp) ?_
              refine (AllReadyH.cons (o := { dst := some 12, op := Op.alloc 59, type := 0, pos := "law.go:312", after := #[], guard := none }) rfl (fun K hK => ?_) AllReadyH.nil)
              go_simp
              obtain ⟨wz7, hwz⟩ : ∃ v, v = wz3.alloc (Obj.cells #[.int .i64 0, .int .i64 0] 59) := ⟨_, rfl⟩
              rw [← hwz]
              have hl : Below wz3.heap.size wz3 wz7 := by rw [hwz]; exact below_new _ _
              have hbz7 := bthen hbz3 hl
              have bx : Blk wz7 wz3.heap.size 59 [.int .i64 0, .int .i64 0] := by rw [hwz]; exact Blk.new _ _ _
              have hBs : w5.heap.size ≤ wz3.heap.size := (hbz3).size
              generalize wz3.heap.size = B at bx hBs ⊢
              clear hwz
              have hu1 := hu1.carry hl
              clear hl
              refine hK.out _ _ ⟨cellb g0 hbz7, cellb g1 hbz7⟩ (fun hHeld3 => ?_)
              clear hK K hHeld2
              try simp only [Act.put, List.setIfInBounds_toArray, List.set_cons_zero, List.set_cons_succ]
              refine wpAnyH_ready (rs := [8]) (by kernel_rfl) (by simp) ?_
              refine (AllReadyH.cons (o := { dst := none, op := Op.store 59 (Operand.tmp 12) (Operand.tmp 70), type := 0, pos := "law.go:312", after := #[{ on := 7, ground := Ground.data }, { on := 5, ground := Ground.data }, { on := 3, ground := Ground.chain }, { on := 0, ground := Ground.phase }, { on := 1, ground := Ground.phase }, { on := 2, ground := Ground.phase }, { on := 3, ground := Ground.phase }, { on := 4, ground := Ground.phase }, { on := 5, ground := Ground.phase }, { on := 6, ground := Ground.textOnly Departure.lateStores }, { on := 7, ground := Ground.phase }], guard := none }) rfl (fun K hK => ?_) AllReadyH.nil)
              have q0 := bx.cell (j := 0) (v := .int .i64 0) rfl
              have q1 := bx.cell (j := 1) (v := .int .i64 0) rfl
              have f0 := bx.frozen 0
              have f1 := bx.frozen 1
              go_simp
              obtain ⟨wz8, hwz⟩ : ∃ v, v = (wz7.setCell ⟨B, 0, none⟩ (.int .i64 Y1)).setCell ⟨B, 1, none⟩ (.int .i64 Y2) := ⟨_, rfl⟩
              rw [← hwz]
              have hbz8 : Below w5.heap.size w5 wz8 := by rw [hwz]; exact (hbz7.setCell hBs _).setCell hBs _
              have bx := bx.set2 (.int .i64 Y1) (.int .i64 Y2)
              rw [← hwz] at bx
              clear q0 q1 f0 f1
              clear hwz
              refine hK.out _ _ ⟨cellb g0 hbz8, cellb g1 hbz8⟩ (fun hHeld4 => ?_)
              clear hK K hHeld3
              try simp only [Act.put, List.setIfInBounds_toArray, List.set_cons_zero, List.set_cons_succ]
              refine wpAnyH_take (i := 9) (oi := { dst := some 13, op := Op.assign (Operand.tmp 71), type := 27, pos := "law.go:312", after := #[{ on := 6, ground := Ground.data }, { on := 8, ground := Ground.chain }, { on := 0, ground := Ground.phase }, { on := 1, ground := Ground.phase }, { on := 2, ground := Ground.phase }, { on := 3, ground := Ground.phase }, { on := 4, ground := Ground.phase }, { on := 5, ground := Ground.phase }, { on := 6, ground := Ground.phase }, { on := 7, ground := Ground.phase }, { on := 8, ground := Ground.phase }], guard := none }) (v := ?_) rfl (by kernel_rfl) (by kernel_rfl) (by kernel_rfl) (fun _ _ _ h => h) (Or.inl ⟨by rfl, ?_⟩) (by assumption) ?_
              rotate_left
              · (intro w hSw; (try dsimp only at hSw); go_simp); (try with_reducible rfl)
              try simp only [Act.put, List.setIfInBounds_toArray, List.set_cons_zero, List.set_cons_succ]
              refine wpAnyH_done (by kernel_rfl) ?_ _
              clear hHeld4
              go_wp2_with fail
              go_meet
              exact ⟨B, rfl, bx, rfl, hbz8⟩
            · go_simp
              obtain ⟨wz7, hwz⟩ : ∃ v, v = wz1.alloc (Obj.cells #[.int .i64 0, .int .i64 0] 59) := ⟨_, rfl⟩
              rw [← hwz]
              have hl : Below wz1.heap.size wz1 wz7 := by rw [hwz]; exact below_new _ _
              have hbz7 := bthen hbz1 hl
              have bx : Blk wz7 wz1.heap.size 59 [.int .i64 0, .int .i64 0] := by rw [hwz]; exact Blk.new _ _ _
              have hBs : w5.heap.size ≤ wz1.heap.size := (hbz1).size
              generalize wz1.heap.size = B at bx hBs ⊢
              clear hwz
              have hu1 := hu1.carry hl
              clear hl
              refine hK.out _ _ ⟨cellb g0 hbz7, cellb g1 hbz7⟩ (fun hHeld2 => ?_)
              clear hK K hHeld1
              try simp only [Act.put, List.setIfInBounds_toArray, List.set_cons_zero, List.set_cons_succ]
              refine wpAnyH_ready (rs := [3]) (by kernel_rfl) (by simp) ?_
              refine (AllReadyH.cons (o := { dst := some 69, op := Op.call { callee := Callee.value (Operand.func 61), args := #[Operand.tmp 67, Operand.tmp 68], argTypes := #[26, 59] }, type := 106, pos := "law.go:312", after := #[{ on := 1, ground := Ground.data }, { on := 2, ground := Ground.data }, { on := 1, ground := Ground.chain }], guard := none }) rfl (fun K hK => ?_) AllReadyH.nil)
              go_simp
              refine (TVS.out u1 wz7 hu1).mono ?_
              rintro e wz3 ⟨rfl, hl⟩
              (try go_wp2_with fail)
              have hbz3 := bthen hbz7 hl
              have hu1 := hu1.carry hl
              have bx := bx.carry hl
              clear hl
              refine hK.out _ _ ⟨cellb g0 hbz3, cellb g1 hbz3⟩ (fun hHeld3 => ?_)
              clear hK K hHeld2
              try simp only [Act.put, List.setIfInBounds_toArray, List.set_cons_zero, List.set_cons_succ]
              refine wpAnyH_take (i := 4) (oi := { dst := some 65, op := Op.move (Operand.tmp 69), type := 106, pos := "law.go:312", after := #[{ on := 3, ground := Ground.data }], guard := none }) (v := ?_) rfl (by kernel_rfl) (by kernel_rfl) (by kernel_rfl) (fun _ _ _ h => h) (Or.inl ⟨by rfl, ?_⟩) (by assumption) ?_
              rotate_left
              · (intro w hSw; (try dsimp only at hSw); go_simp); (try with_reducible rfl)
              try simp only [Act.put, List.setIfInBounds_toArray, List.set_cons_zero, List.set_cons_succ]
              refine wpAnyH_take (i := 5) (oi := { dst := some 70, op := Op.extract (Operand.tmp 65) 0, type := 59, pos := "law.go:312", after := #[{ on := 4, ground := Ground.data }], guard := none }) (v := ?_) rfl (by kernel_rfl) (by kernel_rfl) (by kernel_rfl) (fun _ _ _ h => h) (Or.inl ⟨by rfl, ?_⟩) (by assumption) ?_
              rotate_left
              · (intro w hSw; (try dsimp only at hSw); go_simp); (try with_reducible rfl)
              try simp only [Act.put, List.setIfInBounds_toArray, List.set_cons_zero, List.set_cons_succ]
              refine wpAnyH_take (i := 6) (oi := { dst := some 71, op := Op.extract (Operand.tmp 65) 1, type := 27, pos := "law.go:312", after := #[{ on := 4, ground := Ground.data }, { on := 8, ground := Ground.gcOnly Departure.lateStores }], guard := none }) (v := ?_) rfl (by kernel_rfl) (by kernel_rfl) (by kernel_rfl) (fun _ _ _ h => h) (Or.inl ⟨by rfl, ?_⟩) (by assumption) ?_
              rotate_left
              · (intro w hSw; (try dsimp only at hSw); go_simp); (try with_reducible rfl)
              try simp only [Act.put, List.setIfInBounds_toArray, List.set_cons_zero, List.set_cons_succ]
              refine wpAnyH_ready (rs := [8]) (by kernel_rfl) (by simp) ?_
              refine (AllReadyH.cons (o := { dst := none, op := Op.store 59 (Operand.tmp 12) (Operand.tmp 70), type := 0, pos := "law.go:312", after := #[{ on := 7, ground := Ground.data }, { on := 5, ground := Ground.data }, { on := 3, ground := Ground.chain }, { on := 0, ground := Ground.phase }, { on := 1, ground := Ground.phase }, { on := 2, ground := Ground.phase }, { on := 3, ground := Ground.phase }, { on := 4, ground := Ground.phase }, { on := 5, ground := Ground.phase }, { on := 6, ground := Ground.textOnly Departure.lateStores }, { on := 7, ground := Ground.phase }], guard := none }) rfl (fun K hK => ?_) AllReadyH.nil)
              have q0 := bx.cell (j := 0) (v := .int .i64 0) rfl
              have q1 := bx.cell (j := 1) (v := .int .i64 0) rfl
              have f0 := bx.frozen 0
              have f1 := bx.frozen 1
              go_simp
              obtain ⟨wz8, hwz⟩ : ∃ v, v = (wz3.setCell ⟨B, 0, none⟩ (.int .i64 Y1)).setCell ⟨B, 1, none⟩ (.int .i64 Y2) := ⟨_, rfl⟩
              rw [← hwz]
              have hbz8 : Below w5.heap.size w5 wz8 := by rw [hwz]; exact (hbz3.setCell hBs _).setCell hBs _
              have bx := bx.set2 (.int .i64 Y1) (.int .i64 Y2)
              rw [← hwz] at bx
              clear q0 q1 f0 f1
              clear hwz
              refine hK.out _ _ ⟨cellb g0 hbz8, cellb g1 hbz8⟩ (fun hHeld4 => ?_)
              clear hK K hHeld3
              try simp only [Act.put, List.setIfInBounds_toArray, List.set_cons_zero, List.set_cons_succ]
              refine wpAnyH_take (i := 9) (oi := { dst := some 13, op := Op.assign (Operand.tmp 71), type := 27, pos := "law.go:312", after := #[{ on := 6, ground := Ground.data }, { on := 8, ground := Ground.chain }, { on := 0, ground := Ground.phase }, { on := 1, ground := Ground.phase }, { on := 2, ground := Ground.phase }, { on := 3, ground := Ground.phase }, { on := 4, ground := Ground.phase }, { on := 5, ground := Ground.phase }, { on := 6, ground := Ground.phase }, { on := 7, ground := Ground.phase }, { on := 8, ground := Ground.phase }], guard := none }) (v := ?_) rfl (by kernel_rfl) (by kernel_rfl) (by kernel_rfl) (fun _ _ _ h => h) (Or.inl ⟨by rfl, ?_⟩) (by assumption) ?_
              rotate_left
              · (intro w hSw; (try dsimp only at hSw); go_simp); (try with_reducible rfl)
              try simp only [Act.put, List.setIfInBounds_toArray, List.set_cons_zero, List.set_cons_succ]
              refine wpAnyH_done (by kernel_rfl) ?_ _
              clear hHeld4
              go_wp2_with fail
              go_meet
              exact ⟨B, rfl, bx, rfl, hbz8⟩
          · go_simp
            obtain ⟨wz7, hwz⟩ : ∃ v, v = wzd.alloc (Obj.cells #[.int .i64 0, .int .i64 0] 59) := ⟨_, rfl⟩
            rw [← hwz]
            have hl : Below wzd.heap.size wzd wz7 := by rw [hwz]; exact below_new _ _
            have hbz7 := bthen hbzd hl
            have bx : Blk wz7 wzd.heap.size 59 [.int .i64 0, .int .i64 0] := by rw [hwz]; exact Blk.new _ _ _
            have hBs : w5.heap.size ≤ wzd.heap.size := (hbzd).size
            generalize wzd.heap.size = B at bx hBs ⊢
            clear hwz
            clear hl
            refine hK.out _ _ ⟨cellb g0 hbz7, cellb g1 hbz7⟩ (fun hHeld1 => ?_)
            clear hK K hHeld0
            try simp only [Act.put, List.setIfInBounds_toArray, List.set_cons_zero, List.set_cons_succ]
            refine wpAnyH_ready (rs := [1]) (by kernel_rfl) (by simp) ?_
            refine (AllReadyH.cons (o := { dst := some 67, op := Op.call { callee := Callee.value (Operand.func 20), args := #[Operand.tmp 66], argTypes := #[22] }, type := 26, pos := "law.go:312", after := #[{ on := 0, ground := Ground.data }], guard := none }) rfl (fun K hK => ?_) AllReadyH.nil)
            go_simp
            refine (polyL_any _ S wz7 (hus.carry hbz7) (by have := HLS.out; omega)).mono ?_
            rintro e wz1 ⟨⟨u1, rfl, hu1⟩, hl⟩
            (try go_wp2_with fail)
            have hbz1 := bthen hbz7 hl
            have bx := bx.carry hl
            clear hl
            refine hK.out _ _ ⟨cellb g0 hbz1, cellb g1 hbz1⟩ (fun hHeld2 => ?_)
            clear hK K hHeld1
            try simp only [Act.put, List.setIfInBounds_toArray, List.set_cons_zero, List.set_cons_succ]
            refine wpAnyH_ready (rs := [3]) (by kernel_rfl) (by simp) ?_
            refine (AllReadyH.cons (o := { dst := some 69, op := Op.call { callee := Callee.value (Operand.func 61), args := #[Operand.tmp 67, Operand.tmp 68], argTypes := #[26, 59] }, type := 106, pos := "law.go:312", after := #[{ on := 1, ground := Ground.data }, { on := 2, ground := Ground.data }, { on := 1, ground := Ground.chain }], guard := none }) rfl (fun K hK => ?_) AllReadyH.nil)
            go_simp
            refine (TVS.out u1 wz1 hu1).mono ?_
            rintro e wz3 ⟨rfl, hl⟩
            (try go_wp2_with fail)
            have hbz3 := bthen hbz1 hl
            have bx := bx.carry hl
            have hu1 := hu1.carry hl
            clear hl
            refine hK.out _ _ ⟨cellb g0 hbz3, cellb g1 hbz3⟩ (fun hHeld3 => ?_)
            clear hK K hHeld2
            try simp only [Act.put, List.setIfInBounds_toArray, List.set_cons_zero, List.set_cons_succ]
            refine wpAnyH_take (i := 4) (oi := { dst := some 65, op := Op.move (Operand.tmp 69), type := 106, pos := "law.go:312", after := #[{ on := 3, ground := Ground.data }], guard := none }) (v := ?_) rfl (by kernel_rfl) (by kernel_rfl) (by kernel_rfl) (fun _ _ _ h => h) (Or.inl ⟨by rfl, ?_⟩) (by assumption) ?_
            rotate_left
            · (intro w hSw; (try dsimp only at hSw); go_simp); (try with_reducible rfl)
            try simp only [Act.put, List.setIfInBounds_toArray, List.set_cons_zero, List.set_cons_succ]
            refine wpAnyH_take (i := 5) (oi := { dst := some 70, op := Op.extract (Operand.tmp 65) 0, type := 59, pos := "law.go:312", after := #[{ on := 4, ground := Ground.data }], guard := none }) (v := ?_) rfl (by kernel_rfl) (by kernel_rfl) (by kernel_rfl) (fun _ _ _ h => h) (Or.inl ⟨by rfl, ?_⟩) (by assumption) ?_
            rotate_left
            · (intro w hSw; (try dsimp only at hSw); go_simp); (try with_reducible rfl)
            try simp only [Act.put, List.setIfInBounds_toArray, List.set_cons_zero, List.set_cons_succ]
            refine wpAnyH_take (i := 6) (oi := { dst := some 71, op := Op.extract (Operand.tmp 65) 1, type := 27, pos := "law.go:312", after := #[{ on := 4, ground := Ground.data }, { on := 8, ground := Ground.gcOnly Departure.lateStores }], guard := none }) (v := ?_) rfl (by kernel_rfl) (by kernel_rfl) (by kernel_rfl) (fun _ _ _ h => h) (Or.inl ⟨by rfl, ?_⟩) (by assumption) ?_
            rotate_left
            · (intro w hSw; (try dsimp only at hSw); go_simp); (try with_reducible rfl)
            try simp only [Act.put, List.setIfInBounds_toArray, List.set_cons_zero, List.set_cons_succ]
            refine wpAnyH_ready (rs := [8]) (by kernel_rfl) (by simp) ?_
            refine (AllReadyH.cons (o := { dst := none, op := Op.store 59 (Operand.tmp 12) (Operand.tmp 70), type := 0, pos := "law.go:312", after := #[{ on := 7, ground := Ground.data }, { on := 5, ground := Ground.data }, { on := 3, ground := Ground.chain }, { on := 0, ground := Ground.phase }, { on := 1, ground := Ground.phase }, { on := 2, ground := Ground.phase }, { on := 3, ground := Ground.phase }, { on := 4, ground := Ground.phase }, { on := 5, ground := Ground.phase }, { on := 6, ground := Ground.textOnly Departure.lateStores }, { on := 7, ground := Ground.phase }], guard := none }) rfl (fun K hK => ?_) AllReadyH.nil)
            have q0 := bx.cell (j := 0) (v := .int .i64 0) rfl
            have q1 := bx.cell (j := 1) (v := .int .i64 0) rfl
            have f0 := bx.frozen 0
            have f1 := bx.frozen 1
            go_simp
            obtain ⟨wz8, hwz⟩ : ∃ v, v = (wz3.setCell ⟨B, 0, none⟩ (.int .i64 Y1)).setCell ⟨B, 1, none⟩ (.int .i64 Y2) := ⟨_, rfl⟩
            rw [← hwz]
            have hbz8 : Below w5.heap.size w5 wz8 := by rw [hwz]; exact (hbz3.setCell hBs _).setCell hBs _
            have bx := bx.set2 (.int .i64 Y1) (.int .i64 Y2)
            rw [← hwz] at bx
            clear q0 q1 f0 f1
            clear hwz
            refine hK.out _ _ ⟨cellb g0 hbz8, cellb g1 hbz8⟩ (fun hHeld4 => ?_)
            clear hK K hHeld3
            try simp only [Act.put, List.setIfInBounds_toArray, List.set_cons_zero, List.set_cons_succ]
            refine wpAnyH_take (i := 9) (oi := { dst := some 13, op := Op.assign (Operand.tmp 71), type := 27, pos := "law.go:312", after := #[{ on := 6, ground := Ground.data }, { on := 8, ground := Ground.chain }, { on := 0, ground := Ground.phase }, { on := 1, ground := Ground.phase }, { on := 2, ground := Ground.phase }, { on := 3, ground := Ground.phase }, { on := 4, ground := Ground.phase }, { on := 5, ground := Ground.phase }, { on := 6, ground := Ground.phase }, { on := 7, ground := Ground.phase }, { on := 8, ground := Ground.phase }], guard := none }) (v := ?_) rfl (by kernel_rfl) (by kernel_rfl) (by kernel_rfl) (fun _ _ _ h => h) (Or.inl ⟨by rfl, ?_⟩) (by assumption) ?_
            rotate_left
            · (intro w hSw; (try dsimp only at hSw); go_simp); (try with_reducible rfl)
            try simp only [Act.put, List.setIfInBounds_toArray, List.set_cons_zero, List.set_cons_succ]
            refine wpAnyH_done (by kernel_rfl) ?_ _
            clear hHeld4
            go_wp2_with fail
            go_meet
            exact ⟨B, rfl, bx, rfl, hbz8⟩
        case rest =>
          obtain ⟨BY, rfl, iY, rfl, hl⟩ := hcut
          obtain ⟨w6, rfl⟩ : ∃ v, v = wc := ⟨_, rfl⟩
          clear g0 g1
          replace hB := bthen hB hl
          replace iB := iB.carry hl
          replace iZ := iZ.carry hl
          replace iG := iG.carry hl
          replace hup := hup.carry hl
          replace hus := hus.carry hl
          replace iX := iX.carry hl
          clear hl
          go_wp2_with fail
          refine (polyL_any _ P w6 hup (by have := HLP.out; omega)).mono ?_
          rintro e w7 ⟨⟨u1, rfl, hu1⟩, hl⟩
          replace hB := bthen hB hl
          replace iB := iB.carry hl
          replace iZ := iZ.carry hl
          replace iG := iG.carry hl
          replace hup := hup.carry hl
          replace hus := hus.carry hl
          replace iX := iX.carry hl
          replace iY := iY.carry hl
          clear hl
          go_wp2_with fail
          refine (polyL_any _ S w7 hus (by have := HLS.out; omega)).mono ?_
          rintro e w8 ⟨⟨u2, rfl, hu2⟩, hl⟩
          replace hB := bthen hB hl
          replace iB := iB.carry hl
          replace iZ := iZ.carry hl
          replace iG := iG.carry hl
          replace hup := hup.carry hl
          replace hus := hus.carry hl
          replace iX := iX.carry hl
          replace iY := iY.carry hl
          replace hu1 := hu1.carry hl
          clear hl
          have tp := Product_any u1 u2 P S w8 hu1 hu2 (by have := HLP.out; omega) (by have := HLS.out; omega)
          have hpr := prod_sm HP.out HS.out
          obtain ⟨E, hE⟩ : ∃ E, E = prodE P S := ⟨_, rfl⟩
          rw [← hE] at tp hpr
          have HPR := Lib.hid hpr
          have hE4 : E = 0 ∨ E = 4 := by rcases hpr with h | h; exact .inl h.1; exact .inr h
          clear hpr hE
          go_wp2_with fail
          refine tp.mono ?_
          clear tp
          rintro e w9 ⟨⟨um, rfl, hum⟩, hl⟩
          replace hB := bthen hB hl
          replace iB := iB.carry hl
          replace iZ := iZ.carry hl
          replace iG := iG.carry hl
          replace hup := hup.carry hl
          replace hus := hus.carry hl
          replace iX := iX.carry hl
          replace iY := iY.carry hl
          clear hl hu1 hu2
          go_upto_region 8 with fail
          go_cut [91] from 80 to 91 (fun v wn => v = .bool false ∧ w9 = wn)
          case first =>
            rcases hE4 with rfl | rfl
            all_goals
              go_wp2_with fail
              go_meet
              exact ⟨rfl, rfl⟩
          case rest =>
            obtain ⟨rfl, rfl⟩ := hcut
            clear hE4
            go_upto_if 93 with fail
            go_cut [] from 94 to 108 (fun wn => Below w9.heap.size w9 wn)
            case first =>
              by_cases hz : E = 0
              · have hh : prodR P S = timesW P S ∧ checkPolyE (timesW P S) = 0 := by
                  rcases HPR.out with h | h
                  · exact h.2
                  · exact absurd (hz.symm.trans h) (by decide)
                obtain ⟨r1, r2⟩ := hh
                rw [r1] at hum
                subst hz
                obtain ⟨v1, v2⟩ := value_of r2 BR.out BI.out
                obtain ⟨pv1, pv2⟩ := HPV.out
                rw [pv1, pv2] at v2
                obtain ⟨M1, hM1⟩ : ∃ x, wrap64 (wrap64 (X1 * Y1) - wrap64 (X2 * Y2)) = x := ⟨_, rfl⟩
                obtain ⟨M2, hM2⟩ : ∃ x, wrap64 (wrap64 (X1 * Y2) + wrap64 (X2 * Y1)) = x := ⟨_, rfl⟩
                rw [hM1, hM2] at v2
                have tv := Value_any um (timesW P S) zr zi w9 hum (by have := checkPolyE_ok r2; omega)
                rw [v1, v2] at tv
                have tt := fun W => Times_any X1 X2 Y1 Y2 W
                rw [hM1, hM2] at tt
                have TV := Lib.hid tv
                have TT := Lib.hid tt
                have hne := neqGauss M1 M2
                clear v1 v2 pv1 pv2 hM1 hM2 tv tt r1 r2
                have g0 := iG.cell (j := 0) (v := .int .i64 zr) rfl
                have g1 := iG.cell (j := 1) (v := .int .i64 zi) rfl
                go_wp2_with fail
                refine TV.out.mono ?_
                rintro e q1 ⟨rfl, hl⟩
                clear g0 g1
                go_upto_region 12 with fail
                obtain ⟨Q2, hQ2⟩ : ∃ v, v = World.alloc q1 (Obj.cells #[.int .i64 M1, .int .i64 M2] 59) := ⟨_, rfl⟩
                have kQ2 : Below q1.heap.size q1 Q2 := by rw [hQ2]; exact below_new _ _
                have iQ2 : Blk Q2 (q1.heap.size) 59 [.int .i64 M1, .int .i64 M2] := by rw [hQ2]; exact Blk.new _ _ _
                have sQ2 : Q2.heap.size = q1.heap.size + 1 := by rw [hQ2]; simp
                rw [← hQ2]
                clear hQ2
                clear sQ2
                have hl2 := bthen hl kQ2
                have jX := iX.carry hl2
                have jY := iY.carry hl2
                have iM := iQ2
                clear hl kQ2 iQ2
                generalize q1.heap.size = BM at iM ⊢
                have m0 := iM.cell (j := 0) (v := .int .i64 M1) rfl
                have m1 := iM.cell (j := 1) (v := .int .i64 M2) rfl
                have m2 := jX.cell (j := 0) (v := .int .i64 X1) rfl
                have m3 := jX.cell (j := 1) (v := .int .i64 X2) rfl
                have m4 := jY.cell (j := 0) (v := .int .i64 Y1) rfl
                have m5 := jY.cell (j := 1) (v := .int .i64 Y2) rfl
                refine wp_region_held_drew (S := (fun w' => w'.cell? ⟨BM, 0, none⟩ = some (.int .i64 M1) ∧ w'.cell? ⟨BM, 1, none⟩ = some (.int .i64 M2) ∧ w'.cell? ⟨BX, 0, none⟩ = some (.int .i64 X1) ∧ w'.cell? ⟨BX, 1, none⟩ = some (.int .i64 X2) ∧ w'.cell? ⟨BY, 0, none⟩ = some (.int .i64 Y1) ∧ w'.cell? ⟨BY, 1, none⟩ = some (.int .i64 Y2))) (by kernel_rfl) ⟨cellb m0 (Below.refl _ _).drew, cellb m1 (Below.refl _ _).drew, cellb m2 (Below.refl _ _).drew, cellb m3 (Below.refl _ _).drew, cellb m4 (Below.refl _ _).drew, cellb m5 (Below.refl _ _).drew⟩ (fun hHeld0 => ?_)
                obtain ⟨wzd, hwz⟩ : ∃ v, v = Q2.drew := ⟨_, rfl⟩
                rw [← hwz] at hHeld0 ⊢
                have hbzd : Below Q2.heap.size Q2 wzd := by rw [hwz]; exact (Below.refl _ _).drew
                have hlzd : Below Q2.heap.size Q2 wzd := by rw [hwz]; exact (Below.refl _ _).drew
                clear hwz hlzd
                refine wpAnyH_take (i := 0) (oi := { dst := some 100, op := Op.move (Operand.tmp 17), type := 27, pos := "law.go:319", after := #[], guard := none }) (v := ?_) rfl (by kernel_rfl) (by kernel_rfl) (by kernel_rfl) (fun _ _ _ h => h) (Or.inl ⟨by rfl, ?_⟩) (by assumption) ?_
                rotate_left
                · (intro w hSw; (try dsimp only at hSw); go_simp); (try with_reducible rfl)
                try simp only [Act.put, List.setIfInBounds_toArray, List.set_cons_zero, List.set_cons_succ]
                refine wpAnyH_take (i := 1) (oi := { dst := some 101, op := Op.binOp BinOp.neq 27 (Operand.tmp 100) (Operand.const (Value.int IntKind.i64 0)) 27, type := 4, pos := "law.go:319", after := #[{ on := 0, ground := Ground.data }], guard := none }) (v := ?_) rfl (by kernel_rfl) (by kernel_rfl) (by kernel_rfl) (fun _ _ _ h => h) (Or.inl ⟨by rfl, ?_⟩) (by assumption) ?_
                rotate_left
                · (intro w hSw; (try dsimp only at hSw); go_simp); (try with_reducible rfl)
                try simp only [Act.put, List.setIfInBounds_toArray, List.set_cons_zero, List.set_cons_succ]
                refine wpAnyH_take (i := 2) (oi := { dst := some 102, op := Op.move (Operand.tmp 101), type := 4, pos := "law.go:319", after := #[{ on := 1, ground := Ground.data }], guard := none }) (v := ?_) rfl (by kernel_rfl) (by kernel_rfl) (by kernel_rfl) (fun _ _ _ h => h) (Or.inl ⟨by rfl, ?_⟩) (by assumption) ?_
                rotate_left
                · (intro w hSw; (try dsimp only at hSw); go_simp); (try with_reducible rfl)
                try simp only [Act.put, List.setIfInBounds_toArray, List.set_cons_zero, List.set_cons_succ]
                refine wpAnyH_take (i := 3) (oi := { dst := some 103, op := Op.load 59 (Operand.tmp 16), type := 59, pos := "law.go:319", after := #[{ on := 2, ground := Ground.guard }], guard := some (2, false) }) (v := ?_) rfl (by kernel_rfl) (by kernel_rfl) (by kernel_rfl) (fun _ _ _ h => h) (Or.inl ⟨by rfl, ?_⟩) (by assumption) ?_
                rotate_left
                · (intro w hSw; (try dsimp only at hSw); go_simp); (try with_reducible rfl)
                try simp only [Act.put, List.setIfInBounds_toArray, List.set_cons_zero, List.set_cons_succ]
                refine wpAnyH_take (i := 4) (oi := { dst := some 104, op := Op.load 59 (Operand.tmp 10), type := 59, pos := "law.go:319", after := #[{ on := 2, ground := Ground.guard }], guard := some (2, false) }) (v := ?_) rfl (by kernel_rfl) (by kernel_rfl) (by kernel_rfl) (fun _ _ _ h => h) (Or.inl ⟨by rfl, ?_⟩) (by assumption) ?_
                rotate_left
                · (intro w hSw; (try dsimp only at hSw); go_simp); (try with_reducible rfl)
                try simp only [Act.put, List.setIfInBounds_toArray, List.set_cons_zero, List.set_cons_succ]
                refine wpAnyH_take (i := 5) (oi := { dst := some 105, op := Op.load 59 (Operand.tmp 12), type := 59, pos := "law.go:319", after := #[{ on := 2, ground := Ground.guard }], guard := some (2, false) }) (v := ?_) rfl (by kernel_rfl) (by kernel_rfl) (by kernel_rfl) (fun _ _ _ h => h) (Or.inl ⟨by rfl, ?_⟩) (by assumption) ?_
                rotate_left
                · (intro w hSw; (try dsimp only at hSw); go_simp); (try with_reducible rfl)
                try simp only [Act.put, List.setIfInBounds_toArray, List.set_cons_zero, List.set_cons_succ]
                refine wpAnyH_ready (rs := [6]) (by kernel_rfl) (by simp) ?_
                refine (AllReadyH.cons (o := { dst := some 106, op := Op.call { callee := Callee.value (Operand.func 65), args := #[Operand.tmp 104, Operand.tmp 105], argTypes := #[59, 59] }, type := 59, pos := "law.go:319", after := #[{ on := 4, ground := Ground.data }, { on := 5, ground := Ground.data }, { on := 2, ground := Ground.chain }, { on := 2, ground := Ground.guard }], guard := some (2, false) }) rfl (fun K hK => ?_) AllReadyH.nil)
                go_simp
                refine (TT.out wzd).mono ?_
                rintro e wz6 ⟨rfl, hl⟩
                (try go_wp2_with fail)
                have hbz6 := bthen hbzd hl
                clear hl
                refine hK.out _ _ ⟨cellb m0 hbz6, cellb m1 hbz6, cellb m2 hbz6, cellb m3 hbz6, cellb m4 hbz6, cellb m5 hbz6⟩ (fun hHeld1 => ?_)
                clear hK K hHeld0
                try simp only [Act.put, List.setIfInBounds_toArray, List.set_cons_zero, List.set_cons_succ]
                refine wpAnyH_take (i := 7) (oi := { dst := some 107, op := Op.binOp BinOp.neq 59 (Operand.tmp 103) (Operand.tmp 106) 59, type := 4, pos := "law.go:319", after := #[{ on := 3, ground := Ground.data }, { on := 6, ground := Ground.data }, { on := 2, ground := Ground.guard }], guard := some (2, false) }) (v := ?_) rfl (by kernel_rfl) (by kernel_rfl) (by kernel_rfl) (fun _ _ _ h => h) (Or.inl ⟨by rfl, ?_⟩) (by assumption) ?_
                rotate_left
                · (intro w hSw; (try dsimp only at hSw); go_simp); (try with_reducible rfl)
                try simp only [Act.put, List.setIfInBounds_toArray, List.set_cons_zero, List.set_cons_succ]
                refine wpAnyH_take (i := 8) (oi := { dst := some 108, op := Op.pick (Operand.tmp 102) (Operand.const (Value.bool true)) (Operand.tmp 107), type := 4, pos := "law.go:319", after := #[{ on := 2, ground := Ground.data }, { on := 7, ground := Ground.data }], guard := none }) (v := ?_) rfl (by kernel_rfl) (by kernel_rfl) (by kernel_rfl) (fun _ _ _ h => h) (Or.inl ⟨by rfl, ?_⟩) (by assumption) ?_
                rotate_left
                · (intro w hSw; (try dsimp only at hSw); go_simp); (try with_reducible rfl)
                try simp only [Act.put, List.setIfInBounds_toArray, List.set_cons_zero, List.set_cons_succ]
                refine wpAnyH_done (by kernel_rfl) ?_ _
                clear hHeld1
                have hbq := hbz6
                clear m0 m1 m2 m3 m4 m5 hne
                go_wp2_with fail
                go_meet
                exact bthen hl2 hbq
              · have zE : (E == 0) = false := by rw [beq_eq_false_iff_ne]; exact hz
                go_wp2_with fail
                go_meet
                exact Below.refl _ _
            case rest =>
              obtain ⟨wa, rfl⟩ : ∃ v, v = wc := ⟨_, rfl⟩
              replace hB := bthen hB hcut
              replace iB := iB.carry hcut
              replace iZ := iZ.carry hcut
              replace iG := iG.carry hcut
              replace hup := hup.carry hcut
              replace hus := hus.carry hcut
              replace iX := iX.carry hcut
              replace iY := iY.carry hcut
              clear hcut hum HPR HPV
              go_wp2_with fail
              refine (polyL_any _ P wa hup (by have := HLP.out; omega)).mono ?_
              rintro e wb ⟨⟨u3, rfl, hu3⟩, hl⟩
              replace hB := bthen hB hl
              replace iB := iB.carry hl
              replace iZ := iZ.carry hl
              replace iG := iG.carry hl
              replace hup := hup.carry hl
              replace hus := hus.carry hl
              replace iX := iX.carry hl
              replace iY := iY.carry hl
              clear hl
              go_wp2_with fail
              refine (polyL_any _ S wb hus (by have := HLS.out; omega)).mono ?_
              rintro e wd ⟨⟨u4, rfl, hu4⟩, hl⟩
              replace hB := bthen hB hl
              replace iB := iB.carry hl
              replace iZ := iZ.carry hl
              replace iG := iG.carry hl
              replace hup := hup.carry hl
              replace hus := hus.carry hl
              replace iX := iX.carry hl
              replace iY := iY.carry hl
              replace hu3 := hu3.carry hl
              clear hl
              have tp := Sum_any u3 u4 P S wd hu3 hu4 (by have := HLP.out; omega) (by have := HLS.out; omega)
              have hpr := sum_sm HP.out HS.out
              obtain ⟨E2, hE⟩ : ∃ E, E = sumE P S := ⟨_, rfl⟩
              rw [← hE] at tp hpr
              have HPR := Lib.hid hpr
              clear hpr hE
              go_wp2_with fail
              refine tp.mono ?_
              clear tp
              rintro e we ⟨⟨ut, rfl, hut⟩, hl⟩
              replace hB := bthen hB hl
              replace iB := iB.carry hl
              replace iZ := iZ.carry hl
              replace iG := iG.carry hl
              replace hup := hup.carry hl
              replace hus := hus.carry hl
              replace iX := iX.carry hl
              replace iY := iY.carry hl
              clear hl hu3 hu4
              go_upto_if 118 with fail
              go_cut [] from 119 to 142 (fun wn => Below we.heap.size we wn)
              case first =>
                by_cases hz : E2 = 0
                · have hh : sumR P S = plusW P S ∧ checkPolyE (plusW P S) = 0 := by
                    rcases HPR.out with h | h
                    · exact h.2
                    · exact absurd (hz.symm.trans h.1) (by decide)
                  obtain ⟨r1, r2⟩ := hh
                  rw [r1] at hut
                  subst hz
                  obtain ⟨v1, v2⟩ := value_of r2 BR.out BI.out
                  obtain ⟨pv1, pv2⟩ := HSV.out
                  rw [pv1, pv2] at v2
                  obtain ⟨M1, hM1⟩ : ∃ x, wrap64 (X1 + Y1) = x := ⟨_, rfl⟩
                  obtain ⟨M2, hM2⟩ : ∃ x, wrap64 (X2 + Y2) = x := ⟨_, rfl⟩
                  rw [hM1, hM2] at v2
                  have tv := Value_any ut (plusW P S) zr zi we hut (by have := checkPolyE_ok r2; omega)
                  rw [v1, v2] at tv
                  have tt := fun W => Plus_any X1 X2 Y1 Y2 W
                  rw [hM1, hM2] at tt
                  have TV := Lib.hid tv
                  have TT := Lib.hid tt
                  have hne := neqGauss M1 M2
                  clear v1 v2 pv1 pv2 hM1 hM2 tv tt r1 r2
                  have g0 := iG.cell (j := 0) (v := .int .i64 zr) rfl
                  have g1 := iG.cell (j := 1) (v := .int .i64 zi) rfl
                  go_wp2_with fail
                  refine TV.out.mono ?_
                  rintro e q1 ⟨rfl, hl⟩
                  clear g0 g1
                  go_upto_region 17 with fail
                  obtain ⟨Q2, hQ2⟩ : ∃ v, v = World.alloc q1 (Obj.cells #[.int .i64 M1, .int .i64 M2] 59) := ⟨_, rfl⟩
                  have kQ2 : Below q1.heap.size q1 Q2 := by rw [hQ2]; exact below_new _ _
                  have iQ2 : Blk Q2 (q1.heap.size) 59 [.int .i64 M1, .int .i64 M2] := by rw [hQ2]; exact Blk.new _ _ _
                  have sQ2 : Q2.heap.size = q1.heap.size + 1 := by rw [hQ2]; simp
                  rw [← hQ2]
                  clear hQ2
                  clear sQ2
                  have hl2 := bthen hl kQ2
                  have jX := iX.carry hl2
                  have jY := iY.carry hl2
                  have iM := iQ2
                  clear hl kQ2 iQ2
                  generalize q1.heap.size = BM at iM ⊢
                  have m0 := iM.cell (j := 0) (v := .int .i64 M1) rfl
                  have m1 := iM.cell (j := 1) (v := .int .i64 M2) rfl
                  have m2 := jX.cell (j := 0) (v := .int .i64 X1) rfl
                  have m3 := jX.cell (j := 1) (v := .int .i64 X2) rfl
                  have m4 := jY.cell (j := 0) (v := .int .i64 Y1) rfl
                  have m5 := jY.cell (j := 1) (v := .int .i64 Y2) rfl
                  refine wp_region_held_drew (S := (fun w' => w'.cell? ⟨BM, 0, none⟩ = some (.int .i64 M1) ∧ w'.cell? ⟨BM, 1, none⟩ = some (.int .i64 M2) ∧ w'.cell? ⟨BX, 0, none⟩ = some (.int .i64 X1) ∧ w'.cell? ⟨BX, 1, none⟩ = some (.int .i64 X2) ∧ w'.cell? ⟨BY, 0, none⟩ = some (.int .i64 Y1) ∧ w'.cell? ⟨BY, 1, none⟩ = some (.int .i64 Y2))) (by kernel_rfl) ⟨cellb m0 (Below.refl _ _).drew, cellb m1 (Below.refl _ _).drew, cellb m2 (Below.refl _ _).drew, cellb m3 (Below.refl _ _).drew, cellb m4 (Below.refl _ _).drew, cellb m5 (Below.refl _ _).drew⟩ (fun hHeld0 => ?_)
                  obtain ⟨wzd, hwz⟩ : ∃ v, v = Q2.drew := ⟨_, rfl⟩
                  rw [← hwz] at hHeld0 ⊢
                  have hbzd : Below Q2.heap.size Q2 wzd := by rw [hwz]; exact (Below.refl _ _).drew
                  have hlzd : Below Q2.heap.size Q2 wzd := by rw [hwz]; exact (Below.refl _ _).drew
                  clear hwz hlzd
                  refine wpAnyH_take (i := 0) (oi := { dst := some 125, op := Op.move (Operand.tmp 21), type := 27, pos := "law.go:324", after := #[], guard := none }) (v := ?_) rfl (by kernel_rfl) (by kernel_rfl) (by kernel_rfl) (fun _ _ _ h => h) (Or.inl ⟨by rfl, ?_⟩) (by assumption) ?_
                  rotate_left
                  · (intro w hSw; (try dsimp only at hSw); go_simp); (try with_reducible rfl)
                  try simp only [Act.put, List.setIfInBounds_toArray, List.set_cons_zero, List.set_cons_succ]
                  refine wpAnyH_take (i := 1) (oi := { dst := some 126, op := Op.binOp BinOp.neq 27 (Operand.tmp 125) (Operand.const (Value.int IntKind.i64 0)) 27, type := 4, pos := "law.go:324", after := #[{ on := 0, ground := Ground.data }], guard := none }) (v := ?_) rfl (by kernel_rfl) (by kernel_rfl) (by kernel_rfl) (fun _ _ _ h => h) (Or.inl ⟨by rfl, ?_⟩) (by assumption) ?_
                  rotate_left
                  · (intro w hSw; (try dsimp only at hSw); go_simp); (try with_reducible rfl)
                  try simp only [Act.put, List.setIfInBounds_toArray, List.set_cons_zero, List.set_cons_succ]
                  refine wpAnyH_take (i := 2) (oi := { dst := some 127, op := Op.move (Operand.tmp 126), type := 4, pos := "law.go:324", after := #[{ on := 1, ground := Ground.data }], guard := none }) (v := ?_) rfl (by kernel_rfl) (by kernel_rfl) (by kernel_rfl) (fun _ _ _ h => h) (Or.inl ⟨by rfl, ?_⟩) (by assumption) ?_
                  rotate_left
                  · (intro w hSw; (try dsimp only at hSw); go_simp); (try with_reducible rfl)
                  try simp only [Act.put, List.setIfInBounds_toArray, List.set_cons_zero, List.set_cons_succ]
                  refine wpAnyH_take (i := 3) (oi := { dst := some 128, op := Op.load 59 (Operand.tmp 20), type := 59, pos := "law.go:324", after := #[{ on := 2, ground := Ground.guard }], guard := some (2, false) }) (v := ?_) rfl (by kernel_rfl) (by kernel_rfl) (by kernel_rfl) (fun _ _ _ h => h) (Or.inl ⟨by rfl, ?_⟩) (by assumption) ?_
                  rotate_left
                  · (intro w hSw; (try dsimp only at hSw); go_simp); (try with_reducible rfl)
                  try simp only [Act.put, List.setIfInBounds_toArray, List.set_cons_zero, List.set_cons_succ]
                  refine wpAnyH_take (i := 4) (oi := { dst := some 129, op := Op.load 59 (Operand.tmp 10), type := 59, pos := "law.go:324", after := #[{ on := 2, ground := Ground.guard }], guard := some (2, false) }) (v := ?_) rfl (by kernel_rfl) (by kernel_rfl) (by kernel_rfl) (fun _ _ _ h => h) (Or.inl ⟨by rfl, ?_⟩) (by assumption) ?_
                  rotate_left
                  · (intro w hSw; (try dsimp only at hSw); go_simp); (try with_reducible rfl)
                  try simp only [Act.put, List.setIfInBounds_toArray, List.set_cons_zero, List.set_cons_succ]
                  refine wpAnyH_take (i := 5) (oi := { dst := some 130, op := Op.load 59 (Operand.tmp 12), type := 59, pos := "law.go:324", after := #[{ on := 2, ground := Ground.guard }], guard := some (2, false) }) (v := ?_) rfl (by kernel_rfl) (by kernel_rfl) (by kernel_rfl) (fun _ _ _ h => h) (Or.inl ⟨by rfl, ?_⟩) (by assumption) ?_
                  rotate_left
                  · (intro w hSw; (try dsimp only at hSw); go_simp); (try with_reducible rfl)
                  try simp only [Act.put, List.setIfInBounds_toArray, List.set_cons_zero, List.set_cons_succ]
                  refine wpAnyH_ready (rs := [6]) (by kernel_rfl) (by simp) ?_
                  refine (AllReadyH.cons (o := { dst := some 131, op := Op.call { callee := Callee.value (Operand.func 67), args := #[Operand.tmp 129, Operand.tmp 130], argTypes := #[59, 59] }, type := 59, pos := "law.go:324", after := #[{ on := 4, ground := Ground.data }, { on := 5, ground := Ground.data }, { on := 2, ground := Ground.chain }, { on := 2, ground := Ground.guard }], guard := some (2, false) }) rfl (fun K hK => ?_) AllReadyH.nil)
                  go_simp
                  refine (TT.out wzd).mono ?_
                  rintro e wz6 ⟨rfl, hl⟩
                  (try go_wp2_with fail)
                  have hbz6 := bthen hbzd hl
                  clear hl
                  refine hK.out _ _ ⟨cellb m0 hbz6, cellb m1 hbz6, cellb m2 hbz6, cellb m3 hbz6, cellb m4 hbz6, cellb m5 hbz6⟩ (fun hHeld1 => ?_)
                  clear hK K hHeld0
                  try simp only [Act.put, List.setIfInBounds_toArray, List.set_cons_zero, List.set_cons_succ]
                  refine wpAnyH_take (i := 7) (oi := { dst := some 132, op := Op.binOp BinOp.neq 59 (Operand.tmp 128) (Operand.tmp 131) 59, type := 4, pos := "law.go:324", after := #[{ on := 3, ground := Ground.data }, { on := 6, ground := Ground.data }, { on := 2, ground := Ground.guard }], guard := some (2, false) }) (v := ?_) rfl (by kernel_rfl) (by kernel_rfl) (by kernel_rfl) (fun _ _ _ h => h) (Or.inl ⟨by rfl, ?_⟩) (by assumption) ?_
                  rotate_left
                  · (intro w hSw; (try dsimp only at hSw); go_simp); (try with_reducible rfl)
                  try simp only [Act.put, List.setIfInBounds_toArray, List.set_cons_zero, List.set_cons_succ]
                  refine wpAnyH_take (i := 8) (oi := { dst := some 133, op := Op.pick (Operand.tmp 127) (Operand.const (Value.bool true)) (Operand.tmp 132), type := 4, pos := "law.go:324", after := #[{ on := 2, ground := Ground.data }, { on := 7, ground := Ground.data }], guard := none }) (v := ?_) rfl (by kernel_rfl) (by kernel_rfl) (by kernel_rfl) (fun _ _ _ h => h) (Or.inl ⟨by rfl, ?_⟩) (by assumption) ?_
                  rotate_left
                  · (intro w hSw; (try dsimp only at hSw); go_simp); (try with_reducible rfl)
                  try simp only [Act.put, List.setIfInBounds_toArray, List.set_cons_zero, List.set_cons_succ]
                  refine wpAnyH_done (by kernel_rfl) ?_ _
                  clear hHeld1
                  have hbq := hbz6
                  clear m0 m1 m2 m3 m4 m5 hne
                  go_wp2_with fail
                  go_meet
                  exact bthen hl2 hbq
                · have hh : E2 = 6 ∧ plusW P S = [] := by
                    rcases HPR.out with h | h
                    · exact absurd h.1 hz
                    · exact h
                  obtain ⟨rfl, r2⟩ := hh
                  obtain ⟨s1, s2⟩ := HSZ.out r2
                  have tt := fun W => Plus_any X1 X2 Y1 Y2 W
                  rw [s1, s2] at tt
                  have TT := Lib.hid tt
                  have hne := neqGauss 0 0
                  clear s1 s2 tt r2 hz
                  have m2 := iX.cell (j := 0) (v := .int .i64 X1) rfl
                  have m3 := iX.cell (j := 1) (v := .int .i64 X2) rfl
                  have m4 := iY.cell (j := 0) (v := .int .i64 Y1) rfl
                  have m5 := iY.cell (j := 1) (v := .int .i64 Y2) rfl
                  go_wp2_with fail
                  refine (TT.out _).mono ?_
                  rintro e q1 ⟨rfl, hl⟩
                  clear m2 m3 m4 m5
                  go_wp2_with fail
                  go_meet
                  exact hl
              case rest =>
                obtain ⟨wf, rfl⟩ : ∃ v, v = wc := ⟨_, rfl⟩
                replace hB := bthen hB hcut
                replace iB := iB.carry hcut
                replace iZ := iZ.carry hcut
                replace hup := hup.carry hcut
                replace hus := hus.carry hcut
                clear hcut hut HPR HSV HSZ iX iY iG HS TVP TVS
                by_cases hn1 : P.length = 1
                · have e1 : IntKind.i64.wrap ((P.length : Int) - 1) = 0 := by rw [IntWalk.i64_in _ (by omega)]; omega
                  have e1' := Lib.hid hn1
                  clear hn1
                  go_wp2_with fail
                  refine (awake_any wf (hq.below hB hq.size) (hpw.below hB)).mono ?_
                  rintro e y4 ⟨rfl, hl⟩
                  go_wp2
                  go_ret
                  exact ⟨rfl, bthen hB hl⟩
                · obtain ⟨n, hn⟩ : ∃ n, P.length = n + 1 := ⟨P.length - 1, by omega⟩
                  have hn2 : 1 ≤ n := by omega
                  have hn3 : n ≤ 2 := by have := HLP.out; omega
                  have e1 : IntKind.i64.wrap ((P.length : Int) - 1) = (n : Int) := by rw [IntWalk.i64_in _ (by omega)]; omega
                  have zn : ((n : Int) == 0) = false := by rw [beq_eq_false_iff_ne]; omega
                  have zn2 : ¬ n = 0 := by omega
                  obtain ⟨⟨ha1, ha1'⟩, ⟨hb1, hb1'⟩, ⟨hz0, hz0'⟩, hz1, hz1'⟩ := HB1.out
                  have c0 : IntKind.i64.wrap a1 = a1 := IntWalk.i64_in _ (by omega)
                  have c1 : IntKind.i64.wrap b1 = b1 := IntWalk.i64_in _ (by omega)
                  have c2 : IntKind.i64.wrap z0 = z0 := IntWalk.i64_in _ (by omega)
                  have c3 : IntKind.i64.wrap z1 = z1 := IntWalk.i64_in _ (by omega)
                  have hst := steps_ok HP.out hn hn2 (x0 := a1) (x1 := b1) (y0 := z0) (y1 := z1) (by omega) (by omega) (by omega) (by omega)
                  have hbd1 : ∀ i : Nat, -128 ≤ ([a1, b1].take n)[i]?.getD 0 ∧ ([a1, b1].take n)[i]?.getD 0 ≤ 128 := fun i => by
                    cases hq : ([a1, b1].take n)[i]? with
                    | none => simp
                    | some x =>
                      have := List.mem_of_mem_take (List.mem_of_getElem? hq)
                      simp at this
                      rcases this with rfl | rfl <;> simp <;> omega
                  have hbd2 : ∀ i : Nat, -128 ≤ ([z0, z1].take n)[i]?.getD 0 ∧ ([z0, z1].take n)[i]?.getD 0 ≤ 128 := fun i => by
                    cases hq : ([z0, z1].take n)[i]? with
                    | none => simp
                    | some x =>
                      have := List.mem_of_mem_take (List.mem_of_getElem? hq)
                      simp at this
                      rcases this with rfl | rfl <;> simp <;> omega
                  have hl1 : ([a1, b1].take n).length = n := by simp; omega
                  have hl2 : ([z0, z1].take n).length = n := by simp; omega
                  have HN := Lib.hid hn
                  have HST := Lib.hid hst
                  have HBD1 := Lib.hid hbd1
                  have HBD2 := Lib.hid hbd2
                  have HL1 := Lib.hid hl1
                  have HL2 := Lib.hid hl2
                  clear hn hn1 hst hbd1 hbd2 hl1 hl2 ha1 ha1' hb1 hb1' hz0 hz0' hz1 hz1' HB1 hp0
                  go_upto_region 24 with fail
                  have s0 := iB.cell (j := 0) (v := .int .i8 a1) rfl
                  have s1 := iB.cell (j := 1) (v := .int .i8 b1) rfl
                  have s2 := iZ.cell (j := 0) (v := .int .i8 z0) rfl
                  have s3 := iZ.cell (j := 1) (v := .int .i8 z1) rfl
                  go_cut [23, 24] from 149 to 166 (fun v23 v24 wn => Ints wn v23 ([a1, b1].take n) ∧ Ints wn v24 ([z0, z1].take n) ∧ Below wf.heap.size wf wn)
                  case first =>
                    obtain rfl | rfl : n = 1 ∨ n = 2 := by omega
                    all_goals
                      refine wp_region_held_drew (S := (fun w' => w'.cell? ⟨w.heap.size + 1, 0, none⟩ = some (.int .i8 a1) ∧ w'.cell? ⟨w.heap.size + 1, 1, none⟩ = some (.int .i8 b1) ∧ w'.cell? ⟨w.heap.size + 1 + 1, 0, none⟩ = some (.int .i8 z0) ∧ w'.cell? ⟨w.heap.size + 1 + 1, 1, none⟩ = some (.int .i8 z1))) (by kernel_rfl) ⟨cellb s0 (Below.refl _ _).drew, cellb s1 (Below.refl _ _).drew, cellb s2 (Below.refl _ _).drew, cellb s3 (Below.refl _ _).drew⟩ (fun hHeld0 => ?_)
                      obtain ⟨wzd, hwz⟩ : ∃ v, v = wf.drew := ⟨_, rfl⟩
                      rw [← hwz] at hHeld0 ⊢
                      have hbzd : Below wf.heap.size wf wzd := by rw [hwz]; exact (Below.refl _ _).drew
                      have hlzd : Below wf.heap.size wf wzd := by rw [hwz]; exact (Below.refl _ _).drew
                      clear hwz hlzd
                      refine wpAnyH_take (i := 0) (oi := { dst := some 149, op := Op.indexAddr 111 (Operand.tmp 4) (Operand.const (Value.int IntKind.i64 0)), type := 0, pos := "law.go:334", after := #[], guard := none }) (v := ?_) rfl (by kernel_rfl) (by kernel_rfl) (by kernel_rfl) (fun _ _ _ h => h) (Or.inl ⟨by rfl, ?_⟩) (by assumption) ?_
                      rotate_left
                      · (intro w hSw; (try dsimp only at hSw); go_simp); (try with_reducible rfl)
                      try simp only [Act.put, List.setIfInBounds_toArray, List.set_cons_zero, List.set_cons_succ]
                      refine wpAnyH_take (i := 1) (oi := { dst := some 150, op := Op.load 101 (Operand.tmp 149), type := 101, pos := "law.go:334", after := #[{ on := 0, ground := Ground.data }], guard := none }) (v := ?_) rfl (by kernel_rfl) (by kernel_rfl) (by kernel_rfl) (fun _ _ _ h => h) (Or.inl ⟨by rfl, ?_⟩) (by assumption) ?_
                      rotate_left
                      · (intro w hSw; (try dsimp only at hSw); go_simp); (try with_reducible rfl)
                      try simp only [Act.put, List.setIfInBounds_toArray, List.set_cons_zero, List.set_cons_succ]
                      refine wpAnyH_take (i := 2) (oi := { dst := some 151, op := Op.convert 101 3 (Operand.tmp 150), type := 3, pos := "law.go:334", after := #[{ on := 1, ground := Ground.data }], guard := none }) (v := ?_) rfl (by kernel_rfl) (by kernel_rfl) (by kernel_rfl) (fun _ _ _ h => h) (Or.inl ⟨by rfl, ?_⟩) (by assumption) ?_
                      rotate_left
                      · (intro w hSw; (try dsimp only at hSw); go_simp); (try with_reducible rfl)
                      try simp only [Act.put, List.setIfInBounds_toArray, List.set_cons_zero, List.set_cons_succ]
                      refine wpAnyH_take (i := 3) (oi := { dst := some 152, op := Op.indexAddr 111 (Operand.tmp 4) (Operand.const (Value.int IntKind.i64 1)), type := 0, pos := "law.go:334", after := #[], guard := none }) (v := ?_) rfl (by kernel_rfl) (by kernel_rfl) (by kernel_rfl) (fun _ _ _ h => h) (Or.inl ⟨by rfl, ?_⟩) (by assumption) ?_
                      rotate_left
                      · (intro w hSw; (try dsimp only at hSw); go_simp); (try with_reducible rfl)
                      try simp only [Act.put, List.setIfInBounds_toArray, List.set_cons_zero, List.set_cons_succ]
                      refine wpAnyH_take (i := 4) (oi := { dst := some 153, op := Op.load 101 (Operand.tmp 152), type := 101, pos := "law.go:334", after := #[{ on := 3, ground := Ground.data }], guard := none }) (v := ?_) rfl (by kernel_rfl) (by kernel_rfl) (by kernel_rfl) (fun _ _ _ h => h) (Or.inl ⟨by rfl, ?_⟩) (by assumption) ?_
                      rotate_left
                      · (intro w hSw; (try dsimp only at hSw); go_simp); (try with_reducible rfl)
                      try simp only [Act.put, List.setIfInBounds_toArray, List.set_cons_zero, List.set_cons_succ]
                      refine wpAnyH_take (i := 5) (oi := { dst := some 154, op := Op.convert 101 3 (Operand.tmp 153), type := 3, pos := "law.go:334", after := #[{ on := 4, ground := Ground.data }], guard := none }) (v := ?_) rfl (by kernel_rfl) (by kernel_rfl) (by kernel_rfl) (fun _ _ _ h => h) (Or.inl ⟨by rfl, ?_⟩) (by assumption) ?_
                      rotate_left
                      · (intro w hSw; (try dsimp only at hSw); go_simp); (try with_reducible rfl)
                      try simp only [Act.put, List.setIfInBounds_toArray, List.set_cons_zero, List.set_cons_succ]
                      refine wpAnyH_take (i := 7) (oi := { dst := some 156, op := Op.move (Operand.tmp 22), type := 3, pos := "law.go:334", after := #[], guard := none }) (v := ?_) rfl (by kernel_rfl) (by kernel_rfl) (by kernel_rfl) (fun _ _ _ h => h) (Or.inl ⟨by rfl, ?_⟩) (by assumption) ?_
                      rotate_left
                      · (intro w hSw; (try dsimp only at hSw); go_simp); (try with_reducible rfl)
                      try simp only [Act.put, List.setIfInBounds_toArray, List.set_cons_zero, List.set_cons_succ]
                      refine wpAnyH_take (i := 9) (oi := { dst := some 158, op := Op.indexAddr 112 (Operand.tmp 5) (Operand.const (Value.int IntKind.i64 0)), type := 0, pos := "law.go:334", after := #[], guard := none }) (v := ?_) rfl (by kernel_rfl) (by kernel_rfl) (by kernel_rfl) (fun _ _ _ h => h) (Or.inl ⟨by rfl, ?_⟩) (by assumption) ?_
                      rotate_left
                      · (intro w hSw; (try dsimp only at hSw); go_simp); (try with_reducible rfl)
                      try simp only [Act.put, List.setIfInBounds_toArray, List.set_cons_zero, List.set_cons_succ]
                      refine wpAnyH_take (i := 10) (oi := { dst := some 159, op := Op.load 101 (Operand.tmp 158), type := 101, pos := "law.go:334", after := #[{ on := 9, ground := Ground.data }], guard := none }) (v := ?_) rfl (by kernel_rfl) (by kernel_rfl) (by kernel_rfl) (fun _ _ _ h => h) (Or.inl ⟨by rfl, ?_⟩) (by assumption) ?_
                      rotate_left
                      · (intro w hSw; (try dsimp only at hSw); go_simp); (try with_reducible rfl)
                      try simp only [Act.put, List.setIfInBounds_toArray, List.set_cons_zero, List.set_cons_succ]
                      refine wpAnyH_take (i := 11) (oi := { dst := some 160, op := Op.convert 101 3 (Operand.tmp 159), type := 3, pos := "law.go:334", after := #[{ on := 10, ground := Ground.data }], guard := none }) (v := ?_) rfl (by kernel_rfl) (by kernel_rfl) (by kernel_rfl) (fun _ _ _ h => h) (Or.inl ⟨by rfl, ?_⟩) (by assumption) ?_
                      rotate_left
                      · (intro w hSw; (try dsimp only at hSw); go_simp); (try with_reducible rfl)
                      try simp only [Act.put, List.setIfInBounds_toArray, List.set_cons_zero, List.set_cons_succ]
                      refine wpAnyH_take (i := 12) (oi := { dst := some 161, op := Op.indexAddr 112 (Operand.tmp 5) (Operand.const (Value.int IntKind.i64 1)), type := 0, pos := "law.go:334", after := #[], guard := none }) (v := ?_) rfl (by kernel_rfl) (by kernel_rfl) (by kernel_rfl) (fun _ _ _ h => h) (Or.inl ⟨by rfl, ?_⟩) (by assumption) ?_
                      rotate_left
                      · (intro w hSw; (try dsimp only at hSw); go_simp); (try with_reducible rfl)
                      try simp only [Act.put, List.setIfInBounds_toArray, List.set_cons_zero, List.set_cons_succ]
                      refine wpAnyH_take (i := 13) (oi := { dst := some 162, op := Op.load 101 (Operand.tmp 161), type := 101, pos := "law.go:334", after := #[{ on := 12, ground := Ground.data }], guard := none }) (v := ?_) rfl (by kernel_rfl) (by kernel_rfl) (by kernel_rfl) (fun _ _ _ h => h) (Or.inl ⟨by rfl, ?_⟩) (by assumption) ?_
                      rotate_left
                      · (intro w hSw; (try dsimp only at hSw); go_simp); (try with_reducible rfl)
                      try simp only [Act.put, List.setIfInBounds_toArray, List.set_cons_zero, List.set_cons_succ]
                      refine wpAnyH_take (i := 14) (oi := { dst := some 163, op := Op.convert 101 3 (Operand.tmp 162), type := 3, pos := "law.go:334", after := #[{ on := 13, ground := Ground.data }], guard := none }) (v := ?_) rfl (by kernel_rfl) (by kernel_rfl) (by kernel_rfl) (fun _ _ _ h => h) (Or.inl ⟨by rfl, ?_⟩) (by assumption) ?_
                      rotate_left
                      · (intro w hSw; (try dsimp only at hSw); go_simp); (try with_reducible rfl)
                      try simp only [Act.put, List.setIfInBounds_toArray, List.set_cons_zero, List.set_cons_succ]
                      refine wpAnyH_take (i := 16) (oi := { dst := some 165, op := Op.move (Operand.tmp 22), type := 3, pos := "law.go:334", after := #[], guard := none }) (v := ?_) rfl (by kernel_rfl) (by kernel_rfl) (by kernel_rfl) (fun _ _ _ h => h) (Or.inl ⟨by rfl, ?_⟩) (by assumption) ?_
                      rotate_left
                      · (intro w hSw; (try dsimp only at hSw); go_simp); (try with_reducible rfl)
                      try simp only [Act.put, List.setIfInBounds_toArray, List.set_cons_zero, List.set_cons_succ]
                      refine wpAnyH_ready (rs := [6, 15]) (by kernel_rfl) (by simp) ?_
                      refine (AllReadyH.cons (o := { dst := some 155, op := Op.buildSlice 22 2 #[(0, Operand.tmp 151), (1, Operand.tmp 154)], type := 22, pos := "law.go:334", after := #[{ on := 2, ground := Ground.data }, { on := 5, ground := Ground.data }], guard := none }) rfl (fun K hK => ?_) (AllReadyH.cons (o := { dst := some 164, op := Op.buildSlice 22 2 #[(0, Operand.tmp 160), (1, Operand.tmp 163)], type := 22, pos := "law.go:334", after := #[{ on := 11, ground := Ground.data }, { on := 14, ground := Ground.data }], guard := none }) rfl (fun K hK => ?_) AllReadyH.nil))
                      · go_simp
                        obtain ⟨wz6, hwz⟩ : ∃ v, v = wzd.alloc (Obj.cells #[.int .i64 a1, .int .i64 b1] 3) := ⟨_, rfl⟩
                        rw [← hwz]
                        have hl : Below wzd.heap.size wzd wz6 := by rw [hwz]; exact below_new _ _
                        have hbz6 := bthen hbzd hl
                        have j1 : BlkI wz6 wzd.heap.size 3 [a1, b1] := by rw [hwz]; exact Blk.new _ _ _
                        generalize wzd.heap.size = G1 at j1 ⊢
                        clear hwz
                        clear hl
                        refine hK.out _ _ ⟨cellb s0 hbz6, cellb s1 hbz6, cellb s2 hbz6, cellb s3 hbz6⟩ (fun hHeld1 => ?_)
                        clear hK K hHeld0
                        try simp only [Act.put, List.setIfInBounds_toArray, List.set_cons_zero, List.set_cons_succ]
                        refine wpAnyH_take (i := 8) (oi := { dst := some 157, op := Op.slice 22 (Operand.tmp 155) none (some (Operand.tmp 156)) none, type := 22, pos := "law.go:334", after := #[{ on := 6, ground := Ground.data }, { on := 7, ground := Ground.data }], guard := none }) (v := ?_) rfl (by kernel_rfl) (by kernel_rfl) (by kernel_rfl) (fun _ _ _ h => h) (Or.inl ⟨by rfl, ?_⟩) (by assumption) ?_
                        rotate_left
                        · (intro w hSw; (try dsimp only at hSw); go_simp); (try with_reducible rfl)
                        try simp only [Act.put, List.setIfInBounds_toArray, List.set_cons_zero, List.set_cons_succ]
                        refine wpAnyH_take (i := 18) (oi := { dst := some 23, op := Op.assign (Operand.tmp 157), type := 22, pos := "law.go:334", after := #[{ on := 8, ground := Ground.data }, { on := 0, ground := Ground.phase }, { on := 1, ground := Ground.phase }, { on := 2, ground := Ground.phase }, { on := 3, ground := Ground.phase }, { on := 4, ground := Ground.phase }, { on := 5, ground := Ground.phase }, { on := 6, ground := Ground.phase }, { on := 7, ground := Ground.phase }, { on := 8, ground := Ground.phase }, { on := 9, ground := Ground.textOnly Departure.lateStores }, { on := 10, ground := Ground.textOnly Departure.lateStores }, { on := 11, ground := Ground.textOnly Departure.lateStores }, { on := 12, ground := Ground.textOnly Departure.lateStores }, { on := 13, ground := Ground.textOnly Departure.lateStores }, { on := 14, ground := Ground.textOnly Departure.lateStores }, { on := 15, ground := Ground.textOnly Departure.lateStores }, { on := 16, ground := Ground.textOnly Departure.lateStores }, { on := 17, ground := Ground.textOnly Departure.lateStoresUnsure }], guard := none }) (v := ?_) rfl (by kernel_rfl) (by kernel_rfl) (by kernel_rfl) (fun _ _ _ h => h) (Or.inl ⟨by rfl, ?_⟩) (by assumption) ?_
                        rotate_left
                        · (intro w hSw; (try dsimp only at hSw); go_simp); (try with_reducible rfl)
                        try simp only [Act.put, List.setIfInBounds_toArray, List.set_cons_zero, List.set_cons_succ]
                        refine wpAnyH_ready (rs := [15]) (by kernel_rfl) (by simp) ?_
                        refine (AllReadyH.cons (o := { dst := some 164, op := Op.buildSlice 22 2 #[(0, Operand.tmp 160), (1, Operand.tmp 163)], type := 22, pos := "law.go:334", after := #[{ on := 11, ground := Ground.data }, { on := 14, ground := Ground.data }], guard := none }) rfl (fun K hK => ?_) AllReadyH.nil)
                        go_simp
                        obtain ⟨wz15, hwz⟩ : ∃ v, v = wz6.alloc (Obj.cells #[.int .i64 z0, .int .i64 z1] 3) := ⟨_, rfl⟩
                        rw [← hwz]
                        have hl : Below wz6.heap.size wz6 wz15 := by rw [hwz]; exact below_new _ _
                        have hbz15 := bthen hbz6 hl
                        have j2 : BlkI wz15 wz6.heap.size 3 [z0, z1] := by rw [hwz]; exact Blk.new _ _ _
                        generalize wz6.heap.size = G2 at j2 ⊢
                        clear hwz
                        have j1 := j1.carry hl
                        clear hl
                        refine hK.out _ _ ⟨cellb s0 hbz15, cellb s1 hbz15, cellb s2 hbz15, cellb s3 hbz15⟩ (fun hHeld2 => ?_)
                        clear hK K hHeld1
                        try simp only [Act.put, List.setIfInBounds_toArray, List.set_cons_zero, List.set_cons_succ]
                        refine wpAnyH_take (i := 17) (oi := { dst := some 166, op := Op.slice 22 (Operand.tmp 164) none (some (Operand.tmp 165)) none, type := 22, pos := "law.go:334", after := #[{ on := 15, ground := Ground.data }, { on := 16, ground := Ground.data }], guard := none }) (v := ?_) rfl (by kernel_rfl) (by kernel_rfl) (by kernel_rfl) (fun _ _ _ h => h) (Or.inl ⟨by rfl, ?_⟩) (by assumption) ?_
                        rotate_left
                        · (intro w hSw; (try dsimp only at hSw); go_simp); (try with_reducible rfl)
                        try simp only [Act.put, List.setIfInBounds_toArray, List.set_cons_zero, List.set_cons_succ]
                        refine wpAnyH_take (i := 19) (oi := { dst := some 24, op := Op.assign (Operand.tmp 166), type := 22, pos := "law.go:334", after := #[{ on := 17, ground := Ground.data }, { on := 18, ground := Ground.chain }, { on := 0, ground := Ground.phase }, { on := 1, ground := Ground.phase }, { on := 2, ground := Ground.phase }, { on := 3, ground := Ground.phase }, { on := 4, ground := Ground.phase }, { on := 5, ground := Ground.phase }, { on := 6, ground := Ground.phase }, { on := 7, ground := Ground.phase }, { on := 8, ground := Ground.phase }, { on := 9, ground := Ground.phase }, { on := 10, ground := Ground.phase }, { on := 11, ground := Ground.phase }, { on := 12, ground := Ground.phase }, { on := 13, ground := Ground.phase }, { on := 14, ground := Ground.phase }, { on := 15, ground := Ground.phase }, { on := 16, ground := Ground.phase }, { on := 17, ground := Ground.phase }, { on := 18, ground := Ground.phase }], guard := none }) (v := ?_) rfl (by kernel_rfl) (by kernel_rfl) (by kernel_rfl) (fun _ _ _ h => h) (Or.inl ⟨by rfl, ?_⟩) (by assumption) ?_
                        rotate_left
                        · (intro w hSw; (try dsimp only at hSw); go_simp); (try with_reducible rfl)
                        try simp only [Act.put, List.setIfInBounds_toArray, List.set_cons_zero, List.set_cons_succ]
                        refine wpAnyH_done (by kernel_rfl) ?_ _
                        clear hHeld2
                        go_wp2_with fail
                        go_meet
                        exact ⟨(BlkI.ints (n := 2) (l := [a1, b1]) j1 rfl).take (by simp), (BlkI.ints (n := 2) (l := [z0, z1]) j2 rfl).take (by simp), hbz15⟩
                      · go_simp
                        obtain ⟨wz15, hwz⟩ : ∃ v, v = wzd.alloc (Obj.cells #[.int .i64 z0, .int .i64 z1] 3) := ⟨_, rfl⟩
                        rw [← hwz]
                        have hl : Below wzd.heap.size wzd wz15 := by rw [hwz]; exact below_new _ _
                        have hbz15 := bthen hbzd hl
                        have j2 : BlkI wz15 wzd.heap.size 3 [z0, z1] := by rw [hwz]; exact Blk.new _ _ _
                        generalize wzd.heap.size = G2 at j2 ⊢
                        clear hwz
                        clear hl
                        refine hK.out _ _ ⟨cellb s0 hbz15, cellb s1 hbz15, cellb s2 hbz15, cellb s3 hbz15⟩ (fun hHeld1 => ?_)
                        clear hK K hHeld0
                        try simp only [Act.put, List.setIfInBounds_toArray, List.set_cons_zero, List.set_cons_succ]
                        refine wpAnyH_take (i := 17) (oi := { dst := some 166, op := Op.slice 22 (Operand.tmp 164) none (some (Operand.tmp 165)) none, type := 22, pos := "law.go:334", after := #[{ on := 15, ground := Ground.data }, { on := 16, ground := Ground.data }], guard := none }) (v := ?_) rfl (by kernel_rfl) (by kernel_rfl) (by kernel_rfl) (fun _ _ _ h => h) (Or.inl ⟨by rfl, ?_⟩) (by assumption) ?_
                        rotate_left
                        · (intro w hSw; (try dsimp only at hSw); go_simp); (try with_reducible rfl)
                        try simp only [Act.put, List.setIfInBounds_toArray, List.set_cons_zero, List.set_cons_succ]
                        refine wpAnyH_ready (rs := [6]) (by kernel_rfl) (by simp) ?_
                        refine (AllReadyH.cons (o := { dst := some 155, op := Op.buildSlice 22 2 #[(0, Operand.tmp 151), (1, Operand.tmp 154)], type := 22, pos := "law.go:334", after := #[{ on := 2, ground := Ground.data }, { on := 5, ground := Ground.data }], guard := none }) rfl (fun K hK => ?_) AllReadyH.nil)
                        go_simp
                        obtain ⟨wz6, hwz⟩ : ∃ v, v = wz15.alloc (Obj.cells #[.int .i64 a1, .int .i64 b1] 3) := ⟨_, rfl⟩
                        rw [← hwz]
                        have hl : Below wz15.heap.size wz15 wz6 := by rw [hwz]; exact below_new _ _
                        have hbz6 := bthen hbz15 hl
                        have j1 : BlkI wz6 wz15.heap.size 3 [a1, b1] := by rw [hwz]; exact Blk.new _ _ _
                        generalize wz15.heap.size = G1 at j1 ⊢
                        clear hwz
                        have j2 := j2.carry hl
                        clear hl
                        refine hK.out _ _ ⟨cellb s0 hbz6, cellb s1 hbz6, cellb s2 hbz6, cellb s3 hbz6⟩ (fun hHeld2 => ?_)
                        clear hK K hHeld1
                        try simp only [Act.put, List.setIfInBounds_toArray, List.set_cons_zero, List.set_cons_succ]
                        refine wpAnyH_take (i := 8) (oi := { dst := some 157, op := Op.slice 22 (Operand.tmp 155) none (some (Operand.tmp 156)) none, type := 22, pos := "law.go:334", after := #[{ on := 6, ground := Ground.data }, { on := 7, ground := Ground.data }], guard := none }) (v := ?_) rfl (by kernel_rfl) (by kernel_rfl) (by kernel_rfl) (fun _ _ _ h => h) (Or.inl ⟨by rfl, ?_⟩) (by assumption) ?_
                        rotate_left
                        · (intro w hSw; (try dsimp only at hSw); go_simp); (try with_reducible rfl)
                        try simp only [Act.put, List.setIfInBounds_toArray, List.set_cons_zero, List.set_cons_succ]
                        refine wpAnyH_take (i := 18) (oi := { dst := some 23, op := Op.assign (Operand.tmp 157), type := 22, pos := "law.go:334", after := #[{ on := 8, ground := Ground.data }, { on := 0, ground := Ground.phase }, { on := 1, ground := Ground.phase }, { on := 2, ground := Ground.phase }, { on := 3, ground := Ground.phase }, { on := 4, ground := Ground.phase }, { on := 5, ground := Ground.phase }, { on := 6, ground := Ground.phase }, { on := 7, ground := Ground.phase }, { on := 8, ground := Ground.phase }, { on := 9, ground := Ground.textOnly Departure.lateStores }, { on := 10, ground := Ground.textOnly Departure.lateStores }, { on := 11, ground := Ground.textOnly Departure.lateStores }, { on := 12, ground := Ground.textOnly Departure.lateStores }, { on := 13, ground := Ground.textOnly Departure.lateStores }, { on := 14, ground := Ground.textOnly Departure.lateStores }, { on := 15, ground := Ground.textOnly Departure.lateStores }, { on := 16, ground := Ground.textOnly Departure.lateStores }, { on := 17, ground := Ground.textOnly Departure.lateStoresUnsure }], guard := none }) (v := ?_) rfl (by kernel_rfl) (by kernel_rfl) (by kernel_rfl) (fun _ _ _ h => h) (Or.inl ⟨by rfl, ?_⟩) (by assumption) ?_
                        rotate_left
                        · (intro w hSw; (try dsimp only at hSw); go_simp); (try with_reducible rfl)
                        try simp only [Act.put, List.setIfInBounds_toArray, List.set_cons_zero, List.set_cons_succ]
                        refine wpAnyH_take (i := 19) (oi := { dst := some 24, op := Op.assign (Operand.tmp 166), type := 22, pos := "law.go:334", after := #[{ on := 17, ground := Ground.data }, { on := 18, ground := Ground.chain }, { on := 0, ground := Ground.phase }, { on := 1, ground := Ground.phase }, { on := 2, ground := Ground.phase }, { on := 3, ground := Ground.phase }, { on := 4, ground := Ground.phase }, { on := 5, ground := Ground.phase }, { on := 6, ground := Ground.phase }, { on := 7, ground := Ground.phase }, { on := 8, ground := Ground.phase }, { on := 9, ground := Ground.phase }, { on := 10, ground := Ground.phase }, { on := 11, ground := Ground.phase }, { on := 12, ground := Ground.phase }, { on := 13, ground := Ground.phase }, { on := 14, ground := Ground.phase }, { on := 15, ground := Ground.phase }, { on := 16, ground := Ground.phase }, { on := 17, ground := Ground.phase }, { on := 18, ground := Ground.phase }], guard := none }) (v := ?_) rfl (by kernel_rfl) (by kernel_rfl) (by kernel_rfl) (fun _ _ _ h => h) (Or.inl ⟨by rfl, ?_⟩) (by assumption) ?_
                        rotate_left
                        · (intro w hSw; (try dsimp only at hSw); go_simp); (try with_reducible rfl)
                        try simp only [Act.put, List.setIfInBounds_toArray, List.set_cons_zero, List.set_cons_succ]
                        refine wpAnyH_done (by kernel_rfl) ?_ _
                        clear hHeld2
                        go_wp2_with fail
                        go_meet
                        exact ⟨(BlkI.ints (n := 2) (l := [a1, b1]) j1 rfl).take (by simp), (BlkI.ints (n := 2) (l := [z0, z1]) j2 rfl).take (by simp), hbz6⟩
                  case rest =>
                    obtain ⟨h23, h24, hl⟩ := hcut
                    obtain ⟨wg, rfl⟩ : ∃ v, v = wc := ⟨_, rfl⟩
                    clear s0 s1 s2 s3 c0 c1 c2 c3
                    replace hB := bthen hB hl
                    replace hup := hup.carry hl
                    clear hl iB iZ hus
                    generalize [a1, b1].take n = L1 at h23 HST HBD1 HL1
                    generalize [z0, z1].take n = L2 at h24 HST HBD2 HL2
                    have H23 := Lib.hid h23
                    have H24 := Lib.hid h24
                    obtain ⟨b3, o3, cc3, rfl, hc3⟩ := h23.head (by rw [HL1.out]; omega)
                    obtain ⟨b4, o4, cc4, rfl, hc4⟩ := h24.head (by rw [HL2.out]; omega)
                    have HC3 := Lib.hid hc3
                    have HC4 := Lib.hid hc4
                    rw [HL1.out, HL2.out]
                    clear hc3 hc4 h23 h24
                    obtain ⟨i0, hi, hz0, hz1, hz2⟩ := info_parts Tryz.infoInt
                    go_wp2_with fail
                    go_loopw [25, 168] (fun v25 v168 wr => ∃ k : Nat, k ≤ n ∧ v168 = .int .i64 k ∧ OwnI 3 wg.heap.size wr v25 (upto (fun i => L1[i]?.getD 0 + L2[i]?.getD 0) k) ∧ Below wg.heap.size wg wr) (fun _ v168 _ => n - (intOf v168).toNat)
                    case atStart => exact ⟨0, Nat.zero_le _, rfl, World.ownsRow_nil _ _ _ _, Below.refl _ _⟩
                    case round =>
                      obtain ⟨k, hk, rfl, hni, hbr⟩ := hrel
                      by_cases hlt : k < n
                      · have hlt' : (k : Int) < (n : Int) := by omega
                        have cA := HC3.out k (by rw [HL1.out]; exact hlt)
                        have cB := HC4.out k (by rw [HL2.out]; exact hlt)
                        have hS := upto_succ (fun i => L1[i]?.getD 0 + L2[i]?.getD 0) k
                        have hLen : (upto (fun i => L1[i]?.getD 0 + L2[i]?.getD 0) k).length = k := upto_length _ _
                        have q1 := HBD1.out k
                        have q2 := HBD2.out k
                        try simp only at hS
                        generalize L1[k]?.getD 0 = x at cA hS q1
                        generalize L2[k]?.getD 0 = y at cB hS q2
                        generalize upto (fun i => L1[i]?.getD 0 + L2[i]?.getD 0) k = L at hni hS hLen
                        have HS2 := Lib.hid hS
                        have HL := Lib.hid hLen
                        have f1 : IntKind.i64.wrap (x + y) = x + y := IntWalk.i64_in _ (by omega)
                        clear hS hLen q1 q2
                        go_wp2_with fail
                        refine wp_region_held_drew (S := (fun w' => w'.cell? ⟨b3, o3 + k, none⟩ = some (.int .i64 x) ∧ w'.cell? ⟨b4, o4 + k, none⟩ = some (.int .i64 y))) (by kernel_rfl) ⟨cellb cA hbr.drew, cellb cB hbr.drew⟩ (fun hHeld0 => ?_)
                        obtain ⟨wzd, hwz⟩ : ∃ v, v = wr.drew := ⟨_, rfl⟩
                        rw [← hwz] at hHeld0 ⊢
                        have hbzd : Below wg.heap.size wg wzd := by rw [hwz]; exact hbr.drew
                        have hlzd : Below wr.heap.size wr wzd := by rw [hwz]; exact (Below.refl _ _).drew
                        have hni := hni.carry hlzd
                        clear hwz hlzd
                        refine wpAnyH_take (i := 0) (oi := { dst := some 171, op := Op.move (Operand.tmp 25), type := 22, pos := "law.go:337", after := #[], guard := none }) (v := ?_) rfl (by kernel_rfl) (by kernel_rfl) (by kernel_rfl) (fun _ _ _ h => h) (Or.inl ⟨by rfl, ?_⟩) (by assumption) ?_
                        rotate_left
                        · (intro w hSw; (try dsimp only at hSw); go_simp); (try with_reducible rfl)
                        try simp only [Act.put, List.setIfInBounds_toArray, List.set_cons_zero, List.set_cons_succ]
                        refine wpAnyH_take (i := 1) (oi := { dst := some 172, op := Op.move (Operand.tmp 23), type := 22, pos := "law.go:337", after := #[], guard := none }) (v := ?_) rfl (by kernel_rfl) (by kernel_rfl) (by kernel_rfl) (fun _ _ _ h => h) (Or.inl ⟨by rfl, ?_⟩) (by assumption) ?_
                        rotate_left
                        · (intro w hSw; (try dsimp only at hSw); go_simp); (try with_reducible rfl)
                        try simp only [Act.put, List.setIfInBounds_toArray, List.set_cons_zero, List.set_cons_succ]
                        refine wpAnyH_take (i := 2) (oi := { dst := some 173, op := Op.move (Operand.tmp 26), type := 3, pos := "law.go:337", after := #[], guard := none }) (v := ?_) rfl (by kernel_rfl) (by kernel_rfl) (by kernel_rfl) (fun _ _ _ h => h) (Or.inl ⟨by rfl, ?_⟩) (by assumption) ?_
                        rotate_left
                        · (intro w hSw; (try dsimp only at hSw); go_simp); (try with_reducible rfl)
                        try simp only [Act.put, List.setIfInBounds_toArray, List.set_cons_zero, List.set_cons_succ]
                        refine wpAnyH_take (i := 3) (oi := { dst := some 174, op := Op.indexAddr 22 (Operand.tmp 172) (Operand.tmp 173), type := 0, pos := "law.go:337", after := #[{ on := 1, ground := Ground.data }, { on := 2, ground := Ground.data }], guard := none }) (v := ?_) rfl (by kernel_rfl) (by kernel_rfl) (by kernel_rfl) (fun _ _ _ h => h) (Or.inl ⟨by rfl, ?_⟩) (by assumption) ?_
                        rotate_left
                        · (intro w hSw; (try dsimp only at hSw); go_simp); (try with_reducible rfl)
                        try simp only [Act.put, List.setIfInBounds_toArray, List.set_cons_zero, List.set_cons_succ]
                        refine wpAnyH_take (i := 4) (oi := { dst := some 175, op := Op.load 3 (Operand.tmp 174), type := 3, pos := "law.go:337", after := #[{ on := 3, ground := Ground.data }], guard := none }) (v := ?_) rfl (by kernel_rfl) (by kernel_rfl) (by kernel_rfl) (fun _ _ _ h => h) (Or.inl ⟨by rfl, ?_⟩) (by assumption) ?_
                        rotate_left
                        · (intro w hSw; (try dsimp only at hSw); go_simp); (try with_reducible rfl)
                        try simp only [Act.put, List.setIfInBounds_toArray, List.set_cons_zero, List.set_cons_succ]
                        refine wpAnyH_take (i := 5) (oi := { dst := some 176, op := Op.move (Operand.tmp 24), type := 22, pos := "law.go:337", after := #[], guard := none }) (v := ?_) rfl (by kernel_rfl) (by kernel_rfl) (by kernel_rfl) (fun _ _ _ h => h) (Or.inl ⟨by rfl, ?_⟩) (by assumption) ?_
                        rotate_left
                        · (intro w hSw; (try dsimp only at hSw); go_simp); (try with_reducible rfl)
                        try simp only [Act.put, List.setIfInBounds_toArray, List.set_cons_zero, List.set_cons_succ]
                        refine wpAnyH_take (i := 6) (oi := { dst := some 177, op := Op.move (Operand.tmp 26), type := 3, pos := "law.go:337", after := #[], guard := none }) (v := ?_) rfl (by kernel_rfl) (by kernel_rfl) (by kernel_rfl) (fun _ _ _ h => h) (Or.inl ⟨by rfl, ?_⟩) (by assumption) ?_
                        rotate_left
                        · (intro w hSw; (try dsimp only at hSw); go_simp); (try with_reducible rfl)
                        try simp only [Act.put, List.setIfInBounds_toArray, List.set_cons_zero, List.set_cons_succ]
                        refine wpAnyH_take (i := 7) (oi := { dst := some 178, op := Op.indexAddr 22 (Operand.tmp 176) (Operand.tmp 177), type := 0, pos := "law.go:337", after := #[{ on := 5, ground := Ground.data }, { on := 6, ground := Ground.data }], guard := none }) (v := ?_) rfl (by kernel_rfl) (by kernel_rfl) (by kernel_rfl) (fun _ _ _ h => h) (Or.inl ⟨by rfl, ?_⟩) (by assumption) ?_
                        rotate_left
                        · (intro w hSw; (try dsimp only at hSw); go_simp); (try with_reducible rfl)
                        try simp only [Act.put, List.setIfInBounds_toArray, List.set_cons_zero, List.set_cons_succ]
                        refine wpAnyH_take (i := 8) (oi := { dst := some 179, op := Op.load 3 (Operand.tmp 178), type := 3, pos := "law.go:337", after := #[{ on := 7, ground := Ground.data }], guard := none }) (v := ?_) rfl (by kernel_rfl) (by kernel_rfl) (by kernel_rfl) (fun _ _ _ h => h) (Or.inl ⟨by rfl, ?_⟩) (by assumption) ?_
                        rotate_left
                        · (intro w hSw; (try dsimp only at hSw); go_simp); (try with_reducible rfl)
                        try simp only [Act.put, List.setIfInBounds_toArray, List.set_cons_zero, List.set_cons_succ]
                        refine wpAnyH_take (i := 9) (oi := { dst := some 180, op := Op.binOp BinOp.add 3 (Operand.tmp 175) (Operand.tmp 179) 3, type := 3, pos := "law.go:337", after := #[{ on := 4, ground := Ground.data }, { on := 8, ground := Ground.data }], guard := none }) (v := ?_) rfl (by kernel_rfl) (by kernel_rfl) (by kernel_rfl) (fun _ _ _ h => h) (Or.inl ⟨by rfl, ?_⟩) (by assumption) ?_
                        rotate_left
                        · (intro w hSw; (try dsimp only at hSw); go_simp); (try with_reducible rfl)
                        try simp only [Act.put, List.setIfInBounds_toArray, List.set_cons_zero, List.set_cons_succ]
                        refine wpAnyH_ready (rs := [10]) (by kernel_rfl) (by simp) ?_
                        refine (AllReadyH.cons (o := { dst := some 181, op := Op.buildSlice 22 1 #[(0, Operand.tmp 180)], type := 22, pos := "law.go:337", after := #[{ on := 9, ground := Ground.data }], guard := none }) rfl (fun K hK => ?_) AllReadyH.nil)
                        go_simp
                        obtain ⟨wz10, hwz⟩ : ∃ v, v = wzd.alloc (Obj.cells #[.int .i64 (x + y)] 3) := ⟨_, rfl⟩
                        rw [← hwz]
                        have hl : Below wzd.heap.size wzd wz10 := by rw [hwz]; exact below_new _ _
                        have hbz10 := bthen hbzd hl
                        have bs : Blk wz10 wzd.heap.size 3 [.int .i64 (x + y)] := by rw [hwz]; exact Blk.new _ _ _
                        generalize wzd.heap.size = G at bs ⊢
                        clear hwz
                        have hni := hni.carry hl
                        clear hl
                        refine hK.out _ _ ⟨cellb cA hbz10, cellb cB hbz10⟩ (fun hHeld1 => ?_)
                        clear hK K hHeld0
                        try simp only [Act.put, List.setIfInBounds_toArray, List.set_cons_zero, List.set_cons_succ]
                        refine wpAnyH_ready (rs := [11]) (by kernel_rfl) (by simp) ?_
                        refine (AllReadyH.cons (o := { dst := some 182, op := Op.call { callee := Callee.builtin Builtin.append, args := #[Operand.tmp 171, Operand.tmp 181], argTypes := #[22, 22] }, type := 22, pos := "law.go:337", after := #[{ on := 0, ground := Ground.data }, { on := 10, ground := Ground.data }], guard := none }) rfl (fun K hK => ?_) AllReadyH.nil)
                        have hsz11 := (hbz10).size
                        refine wp_append_own wz10 (.tmp 171) (.tmp 181) 22 rfl wg.heap.size 3 i0 (.int .i64 0) 1 8 Tryz.underlying22 hi hz0 hz1 hz2 rfl (by decide) _ L.length _ rfl hni ⟨G, 0, none⟩ 1 1 [.int .i64 (x + y)] rfl rfl bs.one (by simp [Value.oneCell']) (by unfold maxLen; have := HL.out; omega) (by have := HL.out; omega) hsz11 ?_
                        intro v9 wz11 hown9 hgrow9 _
                        have hbz11 := OwnI.grow_below hni hbz10 hgrow9
                        refine hK.out _ _ ⟨cellb cA hbz11, cellb cB hbz11⟩ (fun hHeld2 => ?_)
                        clear hK K hHeld1
                        try simp only [Act.put, List.setIfInBounds_toArray, List.set_cons_zero, List.set_cons_succ]
                        refine wpAnyH_take (i := 12) (oi := { dst := some 25, op := Op.assign (Operand.tmp 182), type := 22, pos := "law.go:337", after := #[{ on := 11, ground := Ground.data }, { on := 11, ground := Ground.chain }, { on := 0, ground := Ground.phase }, { on := 1, ground := Ground.phase }, { on := 2, ground := Ground.phase }, { on := 3, ground := Ground.phase }, { on := 4, ground := Ground.phase }, { on := 5, ground := Ground.phase }, { on := 6, ground := Ground.phase }, { on := 7, ground := Ground.phase }, { on := 8, ground := Ground.phase }, { on := 9, ground := Ground.phase }, { on := 10, ground := Ground.phase }, { on := 11, ground := Ground.phase }], guard := none }) (v := ?_) rfl (by kernel_rfl) (by kernel_rfl) (by kernel_rfl) (fun _ _ _ h => h) (Or.inl ⟨by rfl, ?_⟩) (by assumption) ?_
                        rotate_left
                        · (intro w hSw; (try dsimp only at hSw); go_simp); (try with_reducible rfl)
                        try simp only [Act.put, List.setIfInBounds_toArray, List.set_cons_zero, List.set_cons_succ]
                        refine wpAnyH_done (by kernel_rfl) ?_ _
                        clear hHeld2
                        have hbq := hbz11
                        have hn9 : OwnI 3 wg.heap.size wz11 v9 (L ++ [x + y]) := by unfold OwnI; rw [List.length_append, List.map_append]; exact hown9
                        rw [← HS2.out] at hn9
                        go_wp2_with fail
                        go_roundw
                        case rel => exact ⟨k + 1, by omega, by go_num, hn9, hbq⟩
                        case measure => simp [intOf]; omega
                      · obtain rfl : k = n := by omega
                        have h25 := hni.ints
                        obtain ⟨F, Gs, H, ⟨t1, t2⟩, ⟨t3, t4⟩, ⟨t5, t6⟩, ⟨t7, t8, t9⟩, t10, t11⟩ := HST.out
                        have hL3 : (upto (fun i => L1[i]?.getD 0 + L2[i]?.getD 0) k).length = k := upto_length _ _
                        generalize upto (fun i => L1[i]?.getD 0 + L2[i]?.getD 0) k = L3 at h25 t5 t6 hL3
                        have T1 := Lib.hid (fun (u v : Value) (W : World) (h : Ints W u P) (h' : Ints W v L1) => (show Calls Tryz.prog 41 #[u, v, .int .i64 5] W (GivesPoly W F 0) by have := Stepped_any u v P L1 5 W h h' (by have := HLP.out; omega) (by rw [HL1.out]; omega); rw [t1, t2] at this; exact this))
                        have T2 := Lib.hid (fun (u v : Value) (W : World) (h : Ints W u P) (h' : Ints W v L2) => (show Calls Tryz.prog 41 #[u, v, .int .i64 5] W (GivesPoly W Gs 0) by have := Stepped_any u v P L2 5 W h h' (by have := HLP.out; omega) (by rw [HL2.out]; omega); rw [t3, t4] at this; exact this))
                        have T3 := Lib.hid (fun (u v : Value) (W : World) (h : Ints W u P) (h' : Ints W v L3) => (show Calls Tryz.prog 41 #[u, v, .int .i64 5] W (GivesPoly W H 0) by have := Stepped_any u v P L3 5 W h h' (by have := HLP.out; omega) (by rw [hL3]; omega); rw [t5, t6] at this; exact this))
                        have T7 := Lib.hid t7
                        have T8 := Lib.hid t8
                        have T9 := Lib.hid t9
                        have T10 := Lib.hid t10
                        have T11 := Lib.hid t11
                        have HL3 := Lib.hid hL3
                        clear t1 t2 t3 t4 t5 t6 t7 t8 t9 t10 t11 hL3 hni HST HC3 HC4 HBD1 HBD2
                        obtain ⟨xb, cb, rfl, _⟩ := id h25
                        rw [HL3.out]
                        replace hB := bthen hB hbr
                        replace hup := hup.carry hbr
                        have h23 := H23.out.carry hbr
                        have h24 := H24.out.carry hbr
                        clear hbr H23 H24 hlt hk
                        obtain ⟨w1', rfl⟩ : ∃ v, v = wr := ⟨_, rfl⟩
                        rw [HL1.out] at h23
                        rw [HL2.out] at h24
                        rw [HL3.out] at h25
                        go_wp2_with fail
                        refine (polyL_any _ P w1' hup (by have := HLP.out; omega)).mono ?_
                        rintro e r1 ⟨⟨u1, rfl, hu1⟩, hl⟩
                        replace hB := bthen hB hl
                        replace hup := hup.carry hl
                        replace h24 := h24.carry hl
                        replace h25 := h25.carry hl
                        replace h23 := h23.carry hl
                        clear hl
                        go_wp2_with fail
                        refine (intsL_any _ L1 r1 h23 (by rw [HL1.out]; omega)).mono ?_
                        rintro e r2 ⟨⟨u2, rfl, hu2⟩, hl⟩
                        replace hB := bthen hB hl
                        replace hup := hup.carry hl
                        replace hu1 := hu1.carry hl
                        replace h24 := h24.carry hl
                        replace h25 := h25.carry hl
                        clear hl h23
                        go_wp2_with fail
                        refine (T1.out u1 u2 r2 hu1 hu2).mono ?_
                        rintro e r3 ⟨⟨uF, rfl, huF⟩, hl⟩
                        replace hB := bthen hB hl
                        replace hup := hup.carry hl
                        replace h24 := h24.carry hl
                        replace h25 := h25.carry hl
                        clear hl hu1 hu2
                        go_wp2_with fail
                        refine (polyL_any _ P r3 hup (by have := HLP.out; omega)).mono ?_
                        rintro e r4 ⟨⟨u1, rfl, hu1⟩, hl⟩
                        replace hB := bthen hB hl
                        replace hup := hup.carry hl
                        replace h25 := h25.carry hl
                        replace huF := huF.carry hl
                        replace h24 := h24.carry hl
                        clear hl
                        go_wp2_with fail
                        refine (intsL_any _ L2 r4 h24 (by rw [HL2.out]; omega)).mono ?_
                        rintro e r5 ⟨⟨u2, rfl, hu2⟩, hl⟩
                        replace hB := bthen hB hl
                        replace hup := hup.carry hl
                        replace hu1 := hu1.carry hl
                        replace h25 := h25.carry hl
                        replace huF := huF.carry hl
                        clear hl h24
                        go_wp2_with fail
                        refine (T2.out u1 u2 r5 hu1 hu2).mono ?_
                        rintro e r6 ⟨⟨uG, rfl, huG⟩, hl⟩
                        replace hB := bthen hB hl
                        replace hup := hup.carry hl
                        replace h25 := h25.carry hl
                        replace huF := huF.carry hl
                        clear hl hu1 hu2
                        go_wp2_with fail
                        refine (polyL_any _ P r6 hup (by have := HLP.out; omega)).mono ?_
                        rintro e r7 ⟨⟨u1, rfl, hu1⟩, hl⟩
                        replace hB := bthen hB hl
                        replace hup := hup.carry hl
                        replace huF := huF.carry hl
                        replace huG := huG.carry hl
                        replace h25 := h25.carry hl
                        clear hl
                        go_wp2_with fail
                        refine (intsL_any _ L3 r7 h25 (by rw [HL3.out]; omega)).mono ?_
                        rintro e r8 ⟨⟨u2, rfl, hu2⟩, hl⟩
                        replace hB := bthen hB hl
                        replace hup := hup.carry hl
                        replace hu1 := hu1.carry hl
                        replace huF := huF.carry hl
                        replace huG := huG.carry hl
                        clear hl h25
                        go_wp2_with fail
                        refine (T3.out u1 u2 r8 hu1 hu2).mono ?_
                        rintro e r9 ⟨⟨uH, rfl, huH⟩, hl⟩
                        replace hB := bthen hB hl
                        replace hup := hup.carry hl
                        replace huF := huF.carry hl
                        replace huG := huG.carry hl
                        clear hl hu1 hu2
                        have HUF := Lib.hid huF
                        obtain ⟨bF, oF, cF, rfl, hcF⟩ := huF.head (by rw [T7.out]; omega)
                        obtain ⟨bG, oG, cG, rfl, hcG⟩ := huG.head (by rw [T8.out]; omega)
                        obtain ⟨bH, oH, cH, rfl, hcH⟩ := huH.head (by rw [T9.out]; omega)
                        rw [T7.out, T8.out, T9.out]
                        have HCF := Lib.hid hcF
                        have HCG := Lib.hid hcG
                        have HCH := Lib.hid hcH
                        have hcap : k + 5 ≤ cF := by obtain ⟨a', c', he, hc', _⟩ := huF; cases he; rw [T7.out] at hc'; exact hc'
                        clear hcF hcG hcH huF huG huH T1 T2 T3
                        go_wp2_with fail
                        go_loopw [237] (fun v237 wr => ∃ i : Nat, i ≤ k + 5 ∧ v237 = .int .i64 i ∧ Below r9.heap.size r9 wr) (fun v237 _ => k + 5 - (intOf v237).toNat)
                        case atStart => exact ⟨0, Nat.zero_le _, rfl, Below.refl _ _⟩
                        case round =>
                          obtain ⟨i, hik, rfl, hbr⟩ := hrel
                          by_cases hlt : i < k + 5
                          · have hlt' : (i : Int) < (k : Int) + 5 := by omega
                            have cA := cellb (HCF.out i (by rw [T7.out]; exact hlt)) hbr
                            have cB := cellb (HCG.out i (by rw [T8.out]; exact hlt)) hbr
                            have cC := cellb (HCH.out i (by rw [T9.out]; exact hlt)) hbr
                            obtain ⟨q1, q2, q3⟩ := T10.out i hlt
                            rw [q3] at cC
                            generalize F[i]?.getD 0 = x at cA cC q1
                            generalize Gs[i]?.getD 0 = y at cB cC q2
                            have f1 : IntKind.i64.wrap (x + y) = x + y := IntWalk.i64_in _ (by omega)
                            clear q1 q2 q3
                            go_wp2_with fail
                            refine wp_region_held_drew (S := (fun w' => w'.cell? ⟨bF, oF + i, none⟩ = some (.int .i64 x) ∧ w'.cell? ⟨bG, oG + i, none⟩ = some (.int .i64 y) ∧ w'.cell? ⟨bH, oH + i, none⟩ = some (.int .i64 (x + y)))) (by kernel_rfl) ?_ (fun hHeld0 => ?_)
                            · (try dsimp only); go_keep
                            refine wpAnyH_take (i := 0) (oi := { dst := some 240, op := Op.move (Operand.tmp 31), type := 22, pos := "law.go:346", after := #[], guard := none }) (v := ?_) rfl (by kernel_rfl) (by kernel_rfl) (by kernel_rfl) (fun _ _ _ h => h) (Or.inl ⟨by rfl, ?_⟩) (by assumption) ?_
                            rotate_left
                            · (intro w hSw; (try dsimp only at hSw); go_simp); (try with_reducible rfl)
                            try simp only [Act.put, List.setIfInBounds_toArray, List.set_cons_zero, List.set_cons_succ]
                            refine wpAnyH_take (i := 1) (oi := { dst := some 241, op := Op.move (Operand.tmp 33), type := 3, pos := "law.go:346", after := #[], guard := none }) (v := ?_) rfl (by kernel_rfl) (by kernel_rfl) (by kernel_rfl) (fun _ _ _ h => h) (Or.inl ⟨by rfl, ?_⟩) (by assumption) ?_
                            rotate_left
                            · (intro w hSw; (try dsimp only at hSw); go_simp); (try with_reducible rfl)
                            try simp only [Act.put, List.setIfInBounds_toArray, List.set_cons_zero, List.set_cons_succ]
                            refine wpAnyH_take (i := 2) (oi := { dst := some 242, op := Op.indexAddr 22 (Operand.tmp 240) (Operand.tmp 241), type := 0, pos := "law.go:346", after := #[{ on := 0, ground := Ground.data }, { on := 1, ground := Ground.data }], guard := none }) (v := ?_) rfl (by kernel_rfl) (by kernel_rfl) (by kernel_rfl) (fun _ _ _ h => h) (Or.inl ⟨by rfl, ?_⟩) (by assumption) ?_
                            rotate_left
                            · (intro w hSw; (try dsimp only at hSw); go_simp); (try with_reducible rfl)
                            try simp only [Act.put, List.setIfInBounds_toArray, List.set_cons_zero, List.set_cons_succ]
                            refine wpAnyH_take (i := 3) (oi := { dst := some 243, op := Op.load 3 (Operand.tmp 242), type := 3, pos := "law.go:346", after := #[{ on := 2, ground := Ground.data }], guard := none }) (v := ?_) rfl (by kernel_rfl) (by kernel_rfl) (by kernel_rfl) (fun _ _ _ h => h) (Or.inl ⟨by rfl, ?_⟩) (by assumption) ?_
                            rotate_left
                            · (intro w hSw; (try dsimp only at hSw); go_simp); (try with_reducible rfl)
                            try simp only [Act.put, List.setIfInBounds_toArray, List.set_cons_zero, List.set_cons_succ]
                            refine wpAnyH_take (i := 4) (oi := { dst := some 244, op := Op.move (Operand.tmp 27), type := 22, pos := "law.go:346", after := #[], guard := none }) (v := ?_) rfl (by kernel_rfl) (by kernel_rfl) (by kernel_rfl) (fun _ _ _ h => h) (Or.inl ⟨by rfl, ?_⟩) (by assumption) ?_
                            rotate_left
                            · (intro w hSw; (try dsimp only at hSw); go_simp); (try with_reducible rfl)
                            try simp only [Act.put, List.setIfInBounds_toArray, List.set_cons_zero, List.set_cons_succ]
                            refine wpAnyH_take (i := 5) (oi := { dst := some 245, op := Op.move (Operand.tmp 33), type := 3, pos := "law.go:346", after := #[], guard := none }) (v := ?_) rfl (by kernel_rfl) (by kernel_rfl) (by kernel_rfl) (fun _ _ _ h => h) (Or.inl ⟨by rfl, ?_⟩) (by assumption) ?_
                            rotate_left
                            · (intro w hSw; (try dsimp only at hSw); go_simp); (try with_reducible rfl)
                            try simp only [Act.put, List.setIfInBounds_toArray, List.set_cons_zero, List.set_cons_succ]
                            refine wpAnyH_take (i := 6) (oi := { dst := some 246, op := Op.indexAddr 22 (Operand.tmp 244) (Operand.tmp 245), type := 0, pos := "law.go:346", after := #[{ on := 4, ground := Ground.data }, { on := 5, ground := Ground.data }], guard := none }) (v := ?_) rfl (by kernel_rfl) (by kernel_rfl) (by kernel_rfl) (fun _ _ _ h => h) (Or.inl ⟨by rfl, ?_⟩) (by assumption) ?_
                            rotate_left
                            · (intro w hSw; (try dsimp only at hSw); go_simp); (try with_reducible rfl)
                            try simp only [Act.put, List.setIfInBounds_toArray, List.set_cons_zero, List.set_cons_succ]
                            refine wpAnyH_take (i := 7) (oi := { dst := some 247, op := Op.load 3 (Operand.tmp 246), type := 3, pos := "law.go:346", after := #[{ on := 6, ground := Ground.data }], guard := none }) (v := ?_) rfl (by kernel_rfl) (by kernel_rfl) (by kernel_rfl) (fun _ _ _ h => h) (Or.inl ⟨by rfl, ?_⟩) (by assumption) ?_
                            rotate_left
                            · (intro w hSw; (try dsimp only at hSw); go_simp); (try with_reducible rfl)
                            try simp only [Act.put, List.setIfInBounds_toArray, List.set_cons_zero, List.set_cons_succ]
                            refine wpAnyH_take (i := 8) (oi := { dst := some 248, op := Op.move (Operand.tmp 29), type := 22, pos := "law.go:346", after := #[], guard := none }) (v := ?_) rfl (by kernel_rfl) (by kernel_rfl) (by kernel_rfl) (fun _ _ _ h => h) (Or.inl ⟨by rfl, ?_⟩) (by assumption) ?_
                            rotate_left
                            · (intro w hSw; (try dsimp only at hSw); go_simp); (try with_reducible rfl)
                            try simp only [Act.put, List.setIfInBounds_toArray, List.set_cons_zero, List.set_cons_succ]
                            refine wpAnyH_take (i := 9) (oi := { dst := some 249, op := Op.move (Operand.tmp 33), type := 3, pos := "law.go:346", after := #[], guard := none }) (v := ?_) rfl (by kernel_rfl) (by kernel_rfl) (by kernel_rfl) (fun _ _ _ h => h) (Or.inl ⟨by rfl, ?_⟩) (by assumption) ?_
                            rotate_left
                            · (intro w hSw; (try dsimp only at hSw); go_simp); (try with_reducible rfl)
                            try simp only [Act.put, List.setIfInBounds_toArray, List.set_cons_zero, List.set_cons_succ]
                            refine wpAnyH_take (i := 10) (oi := { dst := some 250, op := Op.indexAddr 22 (Operand.tmp 248) (Operand.tmp 249), type := 0, pos := "law.go:346", after := #[{ on := 8, ground := Ground.data }, { on := 9, ground := Ground.data }], guard := none }) (v := ?_) rfl (by kernel_rfl) (by kernel_rfl) (by kernel_rfl) (fun _ _ _ h => h) (Or.inl ⟨by rfl, ?_⟩) (by assumption) ?_
                            rotate_left
                            · (intro w hSw; (try dsimp only at hSw); go_simp); (try with_reducible rfl)
                            try simp only [Act.put, List.setIfInBounds_toArray, List.set_cons_zero, List.set_cons_succ]
                            refine wpAnyH_take (i := 11) (oi := { dst := some 251, op := Op.load 3 (Operand.tmp 250), type := 3, pos := "law.go:346", after := #[{ on := 10, ground := Ground.data }], guard := none }) (v := ?_) rfl (by kernel_rfl) (by kernel_rfl) (by kernel_rfl) (fun _ _ _ h => h) (Or.inl ⟨by rfl, ?_⟩) (by assumption) ?_
                            rotate_left
                            · (intro w hSw; (try dsimp only at hSw); go_simp); (try with_reducible rfl)
                            try simp only [Act.put, List.setIfInBounds_toArray, List.set_cons_zero, List.set_cons_succ]
                            refine wpAnyH_take (i := 12) (oi := { dst := some 252, op := Op.binOp BinOp.add 3 (Operand.tmp 247) (Operand.tmp 251) 3, type := 3, pos := "law.go:346", after := #[{ on := 7, ground := Ground.data }, { on := 11, ground := Ground.data }], guard := none }) (v := ?_) rfl (by kernel_rfl) (by kernel_rfl) (by kernel_rfl) (fun _ _ _ h => h) (Or.inl ⟨by rfl, ?_⟩) (by assumption) ?_
                            rotate_left
                            · (intro w hSw; (try dsimp only at hSw); go_simp); (try with_reducible rfl)
                            try simp only [Act.put, List.setIfInBounds_toArray, List.set_cons_zero, List.set_cons_succ]
                            refine wpAnyH_take (i := 13) (oi := { dst := some 253, op := Op.binOp BinOp.neq 3 (Operand.tmp 243) (Operand.tmp 252) 3, type := 4, pos := "law.go:346", after := #[{ on := 3, ground := Ground.data }, { on := 12, ground := Ground.data }], guard := none }) (v := ?_) rfl (by kernel_rfl) (by kernel_rfl) (by kernel_rfl) (fun _ _ _ h => h) (Or.inl ⟨by rfl, ?_⟩) (by assumption) ?_
                            rotate_left
                            · (intro w hSw; (try dsimp only at hSw); go_simp); (try with_reducible rfl)
                            try simp only [Act.put, List.setIfInBounds_toArray, List.set_cons_zero, List.set_cons_succ]
                            refine wpAnyH_done (by kernel_rfl) ?_ _
                            clear hHeld0
                            go_wp2_with fail
                            go_roundw
                            case rel => exact ⟨i + 1, by omega, by go_num, hbr.drew⟩
                            case measure => simp [intOf]; omega
                          · obtain rfl : i = k + 5 := by omega
                            replace hB := bthen hB hbr
                            replace hup := hup.carry hbr
                            have hF := HUF.out.carry hbr
                            obtain ⟨w2', rfl⟩ : ∃ v, v = wr := ⟨_, rfl⟩
                            clear hbr hlt hik
                            have HUP := Lib.hid hup
                            obtain ⟨bP, oP, cP, hxe, hcP⟩ := hup.head (by have := HN.out; omega)
                            cases hxe
                            have cP0 := hcP k (by have := HN.out; omega)
                            have hkP : (k : Int) < (P.length : Int) := by have := HN.out; omega
                            have cF1 : w2'.cell? ⟨bF, oF + 1, none⟩ = some (.int .i64 (F[1]?.getD 0)) := by
                              obtain ⟨a', c', he, hc', hv⟩ := hF
                              cases he
                              obtain ⟨b'', o'', he, hcs⟩ := hv (by rw [T7.out]; omega)
                              cases he
                              exact hcs 1 (by rw [T7.out]; omega)
                            have cFk : w2'.cell? ⟨bF, oF + k, none⟩ = some (.int .i64 (F[k]?.getD 0)) := by
                              obtain ⟨a', c', he, hc', hv⟩ := hF
                              cases he
                              obtain ⟨b'', o'', he, hcs⟩ := hv (by rw [T7.out]; omega)
                              cases he
                              exact hcs k (by rw [T7.out]; omega)
                            have hT11 := T11.out
                            generalize P[k]?.getD 0 = pk at cP0 hT11
                            generalize F[1]?.getD 0 = x1 at cF1 hT11
                            generalize F[k]?.getD 0 = xk at cFk hT11
                            have HT11 := Lib.hid hT11
                            have HF := Lib.hid hF
                            clear hcP hup hF hT11 T10 HCF HCG HCH HUF T11
                            have dk : (k : Int) < (k : Int) + 5 := by omega
                            have d1 : (1 : Int) < (k : Int) + 5 := by omega
                            by_cases hp1 : pk = 1
                            · have zp : (pk != 1) = false := by rw [bne_eq_false_iff_eq]; exact hp1
                              have HP1 := Lib.hid hp1
                              clear hp1
                              go_wp2_with fail
                              refine (CheckRange_any x1 (-1000) 1000 w2').mono ?_
                              rintro e wq ⟨rfl, rfl⟩
                              by_cases hw1 : withinE x1 (-1000) 1000 = 0
                              · have HW1 := Lib.hid (withinE_ok hw1)
                                rw [hw1]
                                clear hw1
                                go_wp2_with fail
                                refine (CheckRange_any xk (-1000) 1000 w2').mono ?_
                                rintro e wq ⟨rfl, rfl⟩
                                by_cases hw2 : withinE xk (-1000) 1000 = 0
                                · have HW2 := Lib.hid (withinE_ok hw2)
                                  rw [hw2]
                                  clear hw2 cP0 cFk
                                  obtain ⟨l1, l2⟩ := HT11.out HP1.out HW1.out HW2.out
                                  have hF2 : Ints w2' (.slice (some ⟨bF, oF, none⟩) F.length cF) F := HF.out
                                  have hs1 := hF2.sub 1 k (by rw [T7.out]; omega)
                                  have hs2 := hF2.sub 1 (k + 4) (by rw [T7.out]; omega)
                                  rw [List.take_of_length_le (by rw [List.length_drop, T7.out]; omega)] at hs2
                                  have TL := Lib.hid (fun (u v : Value) (W : World) (h : Ints W u P) (h' : Ints W v ((F.drop 1).take k)) => (show Calls Tryz.prog 41 #[u, v, .int .i64 4] W (GivesPoly W (F.drop 1) 0) by have := Stepped_any u v P _ 4 W h h' (by have := HLP.out; omega) (by simp; omega); rw [l1, l2] at this; exact this))
                                  have HS1 := Lib.hid hs1
                                  have HS2 := Lib.hid hs2
                                  have f9 : IntKind.i64.wrap ((k : Int) + 1) = (k : Int) + 1 := IntWalk.i64_in _ (by omega)
                                  have g1 : (0 : Int) ≤ (k : Int) + 1 := by omega
                                  have g2 : (k : Int) + 1 ≤ (cF : Int) := by omega
                                  have g3 : (1 : Int) ≤ (k : Int) + 1 := by omega
                                  have g4 : ¬ cF = 1 := by omega
                                  clear l1 l2 hs1 hs2 hF2
                                  go_wp2_with fail
                                  refine wp_region_held_drew (S := (fun w' => w'.cell? ⟨bF, oF + 1, none⟩ = some (.int .i64 x1))) (by kernel_rfl) (cellb cF1 (Below.refl _ _).drew) (fun hHeld0 => ?_)
                                  obtain ⟨wzd, hwz⟩ : ∃ v, v = w2'.drew := ⟨_, rfl⟩
                                  rw [← hwz] at hHeld0 ⊢
                                  have hbzd : Below w2'.heap.size w2' wzd := by rw [hwz]; exact (Below.refl _ _).drew
                                  have hlzd : Below w2'.heap.size w2' wzd := by rw [hwz]; exact (Below.refl _ _).drew
                                  clear hwz hlzd
                                  refine wpAnyH_take (i := 0) (oi := { dst := some 277, op := Op.move (Operand.tmp 7), type := 22, pos := "law.go:354", after := #[], guard := none }) (v := ?_) rfl (by kernel_rfl) (by kernel_rfl) (by kernel_rfl) (fun _ _ _ h => h) (Or.inl ⟨by rfl, ?_⟩) (by assumption) ?_
                                  rotate_left
                                  · (intro w hSw; (try dsimp only at hSw); go_simp); (try with_reducible rfl)
                                  try simp only [Act.put, List.setIfInBounds_toArray, List.set_cons_zero, List.set_cons_succ]
                                  refine wpAnyH_take (i := 2) (oi := { dst := some 279, op := Op.move (Operand.tmp 27), type := 22, pos := "law.go:354", after := #[], guard := none }) (v := ?_) rfl (by kernel_rfl) (by kernel_rfl) (by kernel_rfl) (fun _ _ _ h => h) (Or.inl ⟨by rfl, ?_⟩) (by assumption) ?_
                                  rotate_left
                                  · (intro w hSw; (try dsimp only at hSw); go_simp); (try with_reducible rfl)
                                  try simp only [Act.put, List.setIfInBounds_toArray, List.set_cons_zero, List.set_cons_succ]
                                  refine wpAnyH_take (i := 3) (oi := { dst := some 280, op := Op.move (Operand.tmp 22), type := 3, pos := "law.go:354", after := #[], guard := none }) (v := ?_) rfl (by kernel_rfl) (by kernel_rfl) (by kernel_rfl) (fun _ _ _ h => h) (Or.inl ⟨by rfl, ?_⟩) (by assumption) ?_
                                  rotate_left
                                  · (intro w hSw; (try dsimp only at hSw); go_simp); (try with_reducible rfl)
                                  try simp only [Act.put, List.setIfInBounds_toArray, List.set_cons_zero, List.set_cons_succ]
                                  refine wpAnyH_take (i := 4) (oi := { dst := some 281, op := Op.binOp BinOp.add 3 (Operand.tmp 280) (Operand.const (Value.int IntKind.i64 1)) 3, type := 3, pos := "law.go:354", after := #[{ on := 3, ground := Ground.data }], guard := none }) (v := ?_) rfl (by kernel_rfl) (by kernel_rfl) (by kernel_rfl) (fun _ _ _ h => h) (Or.inl ⟨by rfl, ?_⟩) (by assumption) ?_
                                  rotate_left
                                  · (intro w hSw; (try dsimp only at hSw); go_simp); (try with_reducible rfl)
                                  try simp only [Act.put, List.setIfInBounds_toArray, List.set_cons_zero, List.set_cons_succ]
                                  refine wpAnyH_take (i := 5) (oi := { dst := some 282, op := Op.slice 22 (Operand.tmp 279) (some (Operand.const (Value.int IntKind.i64 1))) (some (Operand.tmp 281)) none, type := 22, pos := "law.go:354", after := #[{ on := 2, ground := Ground.data }, { on := 4, ground := Ground.data }], guard := none }) (v := ?_) rfl (by kernel_rfl) (by kernel_rfl) (by kernel_rfl) (fun _ _ _ h => h) (Or.inl ⟨by rfl, ?_⟩) (by assumption) ?_
                                  rotate_left
                                  · (intro w hSw; (try dsimp only at hSw); go_simp); (try with_reducible rfl)
                                  try simp only [Act.put, List.setIfInBounds_toArray, List.set_cons_zero, List.set_cons_succ]
                                  refine wpAnyH_ready (rs := [1]) (by kernel_rfl) (by simp) ?_
                                  refine (AllReadyH.cons (o := { dst := some 278, op := Op.call { callee := Callee.value (Operand.func 20), args := #[Operand.tmp 277], argTypes := #[22] }, type := 26, pos := "law.go:354", after := #[{ on := 0, ground := Ground.data }], guard := none }) rfl (fun K hK => ?_) AllReadyH.nil)
                                  go_simp
                                  refine (polyL_any _ P wzd (HUP.out.carry hbzd) (by have := HLP.out; omega)).mono ?_
                                  rintro e wz1 ⟨⟨u1, rfl, hu1⟩, hl⟩
                                  (try go_wp2_with fail)
                                  have hbz1 := bthen hbzd hl
                                  clear hl
                                  refine hK.out _ _ (cellb cF1 hbz1) (fun hHeld1 => ?_)
                                  clear hK K hHeld0
                                  try simp only [Act.put, List.setIfInBounds_toArray, List.set_cons_zero, List.set_cons_succ]
                                  refine wpAnyH_ready (rs := [6]) (by kernel_rfl) (by simp) ?_
                                  refine (AllReadyH.cons (o := { dst := some 283, op := Op.call { callee := Callee.value (Operand.func 42), args := #[Operand.tmp 282], argTypes := #[22] }, type := 22, pos := "law.go:354", after := #[{ on := 5, ground := Ground.data }, { on := 1, ground := Ground.chain }], guard := none }) rfl (fun K hK => ?_) AllReadyH.nil)
                                  go_simp
                                  refine (intsL_any _ ((F.drop 1).take k) wz1 (HS1.out.carry hbz1) (by simp; omega)).mono ?_
                                  rintro e wz6 ⟨⟨u2, rfl, hu2⟩, hl⟩
                                  (try go_wp2_with fail)
                                  have hbz6 := bthen hbz1 hl
                                  have hu1 := hu1.carry hl
                                  clear hl
                                  refine hK.out _ _ (cellb cF1 hbz6) (fun hHeld2 => ?_)
                                  clear hK K hHeld1
                                  try simp only [Act.put, List.setIfInBounds_toArray, List.set_cons_zero, List.set_cons_succ]
                                  refine wpAnyH_ready (rs := [7]) (by kernel_rfl) (by simp) ?_
                                  refine (AllReadyH.cons (o := { dst := some 284, op := Op.call { callee := Callee.value (Operand.func 41), args := #[Operand.tmp 278, Operand.tmp 283, Operand.const (Value.int IntKind.i64 4)], argTypes := #[26, 22, 3] }, type := 74, pos := "law.go:354", after := #[{ on := 1, ground := Ground.data }, { on := 6, ground := Ground.data }, { on := 6, ground := Ground.chain }], guard := none }) rfl (fun K hK => ?_) AllReadyH.nil)
                                  go_simp
                                  refine (TL.out u1 u2 wz6 hu1 hu2).mono ?_
                                  rintro e wz7 ⟨⟨u3, rfl, hu3⟩, hl⟩
                                  (try go_wp2_with fail)
                                  have hbz7 := bthen hbz6 hl
                                  have hu1 := hu1.carry hl
                                  have hu2 := hu2.carry hl
                                  clear hl
                                  refine hK.out _ _ (cellb cF1 hbz7) (fun hHeld3 => ?_)
                                  clear hK K hHeld2
                                  try simp only [Act.put, List.setIfInBounds_toArray, List.set_cons_zero, List.set_cons_succ]
                                  refine wpAnyH_take (i := 8) (oi := { dst := some 276, op := Op.move (Operand.tmp 284), type := 74, pos := "law.go:354", after := #[{ on := 7, ground := Ground.data }], guard := none }) (v := ?_) rfl (by kernel_rfl) (by kernel_rfl) (by kernel_rfl) (fun _ _ _ h => h) (Or.inl ⟨by rfl, ?_⟩) (by assumption) ?_
                                  rotate_left
                                  · (intro w hSw; (try dsimp only at hSw); go_simp); (try with_reducible rfl)
                                  try simp only [Act.put, List.setIfInBounds_toArray, List.set_cons_zero, List.set_cons_succ]
                                  refine wpAnyH_take (i := 9) (oi := { dst := some 285, op := Op.extract (Operand.tmp 276) 0, type := 22, pos := "law.go:354", after := #[{ on := 8, ground := Ground.data }], guard := none }) (v := ?_) rfl (by kernel_rfl) (by kernel_rfl) (by kernel_rfl) (fun _ _ _ h => h) (Or.inl ⟨by rfl, ?_⟩) (by assumption) ?_
                                  rotate_left
                                  · (intro w hSw; (try dsimp only at hSw); go_simp); (try with_reducible rfl)
                                  try simp only [Act.put, List.setIfInBounds_toArray, List.set_cons_zero, List.set_cons_succ]
                                  refine wpAnyH_take (i := 10) (oi := { dst := some 286, op := Op.extract (Operand.tmp 276) 1, type := 27, pos := "law.go:354", after := #[{ on := 8, ground := Ground.data }, { on := 11, ground := Ground.gcOnly Departure.lateStores }], guard := none }) (v := ?_) rfl (by kernel_rfl) (by kernel_rfl) (by kernel_rfl) (fun _ _ _ h => h) (Or.inl ⟨by rfl, ?_⟩) (by assumption) ?_
                                  rotate_left
                                  · (intro w hSw; (try dsimp only at hSw); go_simp); (try with_reducible rfl)
                                  try simp only [Act.put, List.setIfInBounds_toArray, List.set_cons_zero, List.set_cons_succ]
                                  refine wpAnyH_take (i := 11) (oi := { dst := some 34, op := Op.assign (Operand.tmp 285), type := 22, pos := "law.go:354", after := #[{ on := 9, ground := Ground.data }, { on := 7, ground := Ground.chain }, { on := 0, ground := Ground.phase }, { on := 1, ground := Ground.phase }, { on := 2, ground := Ground.phase }, { on := 3, ground := Ground.phase }, { on := 4, ground := Ground.phase }, { on := 5, ground := Ground.phase }, { on := 6, ground := Ground.phase }, { on := 7, ground := Ground.phase }, { on := 8, ground := Ground.phase }, { on := 9, ground := Ground.phase }, { on := 10, ground := Ground.textOnly Departure.lateStores }], guard := none }) (v := ?_) rfl (by kernel_rfl) (by kernel_rfl) (by kernel_rfl) (fun _ _ _ h => h) (Or.inl ⟨by rfl, ?_⟩) (by assumption) ?_
                                  rotate_left
                                  · (intro w hSw; (try dsimp only at hSw); go_simp); (try with_reducible rfl)
                                  try simp only [Act.put, List.setIfInBounds_toArray, List.set_cons_zero, List.set_cons_succ]
                                  refine wpAnyH_take (i := 12) (oi := { dst := some 35, op := Op.assign (Operand.tmp 286), type := 27, pos := "law.go:354", after := #[{ on := 10, ground := Ground.data }, { on := 11, ground := Ground.chain }, { on := 0, ground := Ground.phase }, { on := 1, ground := Ground.phase }, { on := 2, ground := Ground.phase }, { on := 3, ground := Ground.phase }, { on := 4, ground := Ground.phase }, { on := 5, ground := Ground.phase }, { on := 6, ground := Ground.phase }, { on := 7, ground := Ground.phase }, { on := 8, ground := Ground.phase }, { on := 9, ground := Ground.phase }, { on := 10, ground := Ground.phase }, { on := 11, ground := Ground.phase }], guard := none }) (v := ?_) rfl (by kernel_rfl) (by kernel_rfl) (by kernel_rfl) (fun _ _ _ h => h) (Or.inl ⟨by rfl, ?_⟩) (by assumption) ?_
                                  rotate_left
                                  · (intro w hSw; (try dsimp only at hSw); go_simp); (try with_reducible rfl)
                                  try simp only [Act.put, List.setIfInBounds_toArray, List.set_cons_zero, List.set_cons_succ]
                                  refine wpAnyH_done (by kernel_rfl) ?_ _
                                  clear hHeld3
                                  have hbq := hbz7
                                  obtain ⟨w3', hw3⟩ : ∃ v, v = wz7 := ⟨_, rfl⟩
                                  rw [← hw3] at hbq hu3 ⊢
                                  clear hw3
                                  go_wp2_with fail
                                  refine (sameInts u3 _ _ w3' hu3 (HS2.out.carry hbq) (by simp; rw [T7.out]; omega)).mono ?_
                                  rintro e w4' ⟨rfl, hl⟩
                                  replace hB := bthen (bthen hB hbq) hl
                                  clear hl
                                  go_wp2_with fail
                                  refine (awake_any w4' (hq.below hB hq.size) (hpw.below hB)).mono ?_
                                  rintro e y4 ⟨rfl, hl⟩
                                  go_wp2
                                  go_ret
                                  exact ⟨rfl, bthen hB hl⟩
                                · generalize withinE xk (-1000) 1000 = we2 at hw2 ⊢
                                  have zw : (we2 != 0) = true := by simpa using hw2
                                  go_wp2_with fail
                                  refine (awake_any w2' (hq.below hB hq.size) (hpw.below hB)).mono ?_
                                  rintro e y4 ⟨rfl, hl⟩
                                  go_wp2
                                  go_ret
                                  exact ⟨rfl, bthen hB hl⟩
                              · generalize withinE x1 (-1000) 1000 = we1 at hw1 ⊢
                                have zw : (we1 != 0) = true := by simpa using hw1
                                go_wp2_with fail
                                refine (awake_any w2' (hq.below hB hq.size) (hpw.below hB)).mono ?_
                                rintro e y4 ⟨rfl, hl⟩
                                go_wp2
                                go_ret
                                exact ⟨rfl, bthen hB hl⟩
                            · have zp : (pk != 1) = true := by rw [bne_iff_ne]; exact hp1
                              go_wp2_with fail
                              refine (awake_any w2' (hq.below hB hq.size) (hpw.below hB)).mono ?_
                              rintro e y4 ⟨rfl, hl⟩
                              go_wp2
                              go_ret
                              exact ⟨rfl, bthen hB hl⟩

end Go.Proofs.YtnlmaildmeihgaaGreatDoor

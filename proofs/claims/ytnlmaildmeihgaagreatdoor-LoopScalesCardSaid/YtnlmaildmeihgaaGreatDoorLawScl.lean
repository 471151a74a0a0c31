/- The reference's Scaled and Within; the law LoopScales. -/
import Derived.Test.YtnlmaildmeihgaaGreatDoorRefS
namespace Go.Proofs.YtnlmaildmeihgaaGreatDoor
open Go.RowKit

theorem large_first (l : List Int) : (firstE (l.map fun x => withinE x (-100) 100) = 0) ↔ l.any largeB = false := by
  induction l with
  | nil => simp [firstE]
  | cons x l ih =>
    rw [List.map_cons, List.any_cons, firstE]
    by_cases h : withinE x (-100) 100 = 0
    · rw [if_pos h, ih]
      have : largeB x = false := by unfold largeB coefE; rw [h]; rfl
      rw [this, Bool.false_or]
    · rw [if_neg h]
      have : largeB x = true := by unfold largeB coefE; rw [bne_iff_ne]; exact h
      rw [this, Bool.true_or]
      simp [h]

def largeE (l : List Int) : Int := if l.any largeB then 4 else 0

set_option maxHeartbeats 400000 in
theorem largeR_any (v : Value) (l : List Int) (w : World) (hv : Ints w v l) (hl : l.length ≤ 1000000000) :
    Calls Tryz.prog 97 #[v] w fun e w' => e = .returned (.int .i64 (largeE l)) ∧ w = w' := by
  have TN := checkNumbersR_any v l (-100) 100 w hv hl
  have HL := large_first l
  obtain ⟨a, cap, rfl, _⟩ := hv
  generalize firstE (l.map fun x => withinE x (-100) 100) = f at TN HL
  by_cases hf : f = 0
  · have HA := Lib.hid (HL.1 hf)
    subst hf
    clear HL
    go_enter Tryz.func97, Tryz.ntmps97
    go_wp2_with fail
    refine (TN).mono ?_
    rintro e w' ⟨rfl, rfl⟩
    go_wp2
    go_ret
    exact ⟨ret_int (by rw [largeE, HA.out]; rfl), rfl⟩
  · have HA := Lib.hid (show l.any largeB = true by
      cases h : l.any largeB with
      | true => rfl
      | false => exact absurd (HL.2 h) hf)
    clear HL
    go_enter Tryz.func97, Tryz.ntmps97
    go_wp2_with fail
    refine (TN).mono ?_
    rintro e w' ⟨rfl, rfl⟩
    go_wp2
    go_ret
    exact ⟨ret_int (by rw [largeE, HA.out]; rfl), rfl⟩

theorem scaledW_length (p : List Int) (num den : Int) : (scaledW p num den).length = p.length := upto_length _ _

set_option maxRecDepth 100000 in
set_option maxHeartbeats 2000000 in
theorem ScaledR_any (v : Value) (p : List Int) (num den : Int) (w : World) (hv : Ints w v p) (hl : p.length ≤ 100000) :
    Calls Tryz.prog 22 #[v, .agg #[.int .i64 num, .int .i64 den]] w (GivesPoly w (scaledR p num den) (scaledE p num den)) := by
  have HV := Lib.hid hv
  have TC := fun W h => checkScaleR_any v p num den W h hl
  obtain ⟨a, cap, rfl, _⟩ := hv
  have TC := Lib.hid TC
  go_enter Tryz.func22, Tryz.ntmps22
  go_wp2_with fail
  obtain ⟨W1, hW1⟩ : ∃ v, v = World.alloc w (Obj.cells #[.int .i64 num, .int .i64 den] 24) := ⟨_, rfl⟩
  have kW1 : Below w.heap.size w W1 := by rw [hW1]; exact below_new _ _
  have iW1 : Blk W1 (w.heap.size) 24 [.int .i64 num, .int .i64 den] := by rw [hW1]; exact Blk.new _ _ _
  have sW1 : W1.heap.size = w.heap.size + 1 := by rw [hW1]; simp
  rw [← hW1]
  clear hW1
  clear sW1
  refine (TC.out W1 (HV.out.carry kW1)).mono ?_
  rintro e w2 ⟨rfl, h2⟩
  have hB := bthen kW1 h2
  have iB := iW1.carry h2
  by_cases hs : scal1E p num den = 0
  · have hS := (scal1E_ok hs).1
    have HE := Lib.hid (show scaledE p num den = if (scaledW p num den).any largeB then 4 else 0 by rw [scaledE, if_neg (by rw [hs]; simp)])
    have e0 := iB.cell (j := 0) (v := .int .i64 num) rfl
    have e1 := iB.cell (j := 1) (v := .int .i64 den) rfl
    rw [hs]
    clear hs
    go_wp2_with fail
    refine (scaledR_any _ p num den w2 (HV.out.carry hB) hS).mono ?_
    rintro e w3 ⟨⟨u, rfl, hu⟩, h3⟩
    have hB3 := bthen hB h3
    clear e0 e1
    have hsl := scaledW_length p num den
    have TL := largeR_any u (scaledW p num den) w3 hu (by omega)
    go_wp2_with fail
    refine TL.mono ?_
    rintro e w4 ⟨rfl, rfl⟩
    clear TL
    by_cases hg : (scaledW p num den).any largeB = true
    · have HE2 := Lib.hid (show scaledE p num den = 4 by rw [HE.out, if_pos hg])
      rw [largeE, if_pos hg]
      clear hg hu
      go_wp2
      go_ret2
      exact ⟨⟨_, by rw [HE2.out]; first | done | rfl, by rw [scaledR, if_pos (by rw [HE2.out]; simp)]; exact Ints.nil _⟩, hB3⟩
    · have HE2 := Lib.hid (show scaledE p num den = 0 by rw [HE.out, if_neg hg])
      rw [largeE, if_neg hg]
      clear hg
      have HU := Lib.hid hu
      clear hu
      go_wp2
      go_ret2
      exact ⟨⟨_, by rw [HE2.out]; first | done | rfl, by rw [scaledR, if_neg (by rw [HE2.out]; simp)]; exact HU.out⟩, hB3⟩
  · have HE := Lib.hid (show scaledE p num den = scal1E p num den by rw [scaledE, if_pos hs])
    have HR := Lib.hid (show scaledR p num den = [] by rw [scaledR, if_pos (by rw [HE.out]; exact hs)])
    go_wp2
    go_ret2
    exact ⟨⟨_, by rw [HE.out]; first | done | rfl, by rw [HR.out]; exact Ints.nil _⟩, hB⟩

set_option maxRecDepth 100000 in
set_option maxHeartbeats 2000000 in
theorem WithinR_any (v : Value) (p : List Int) (num den : Int) (w : World) (hv : Ints w v p) (hl : p.length ≤ 100000) :
    Calls Tryz.prog 23 #[v, .agg #[.int .i64 num, .int .i64 den]] w fun e w' => e = .returned (.tuple #[.bool (within2R p num den), .int .i64 (within2E p num den)]) ∧ Below w.heap.size w w' := by
  have HV := Lib.hid hv
  have TC := fun W h => checkScaleR_any v p num den W h hl
  obtain ⟨a, cap, rfl, _⟩ := hv
  have TC := Lib.hid TC
  go_enter Tryz.func23, Tryz.ntmps23
  go_wp2_with fail
  obtain ⟨W1, hW1⟩ : ∃ v, v = World.alloc w (Obj.cells #[.int .i64 num, .int .i64 den] 24) := ⟨_, rfl⟩
  have kW1 : Below w.heap.size w W1 := by rw [hW1]; exact below_new _ _
  have iW1 : Blk W1 (w.heap.size) 24 [.int .i64 num, .int .i64 den] := by rw [hW1]; exact Blk.new _ _ _
  have sW1 : W1.heap.size = w.heap.size + 1 := by rw [hW1]; simp
  rw [← hW1]
  clear hW1
  clear sW1
  refine (TC.out W1 (HV.out.carry kW1)).mono ?_
  rintro e w2 ⟨rfl, h2⟩
  have hB := bthen kW1 h2
  have iB := iW1.carry h2
  by_cases hs : scal1E p num den = 0
  · have hS := (scal1E_ok hs).2
    have HE := Lib.hid (show within2E p num den = if (scaledW p den num).any largeB then 4 else 0 by rw [within2E, if_neg (by rw [hs]; simp)])
    have e0 := iB.cell (j := 0) (v := .int .i64 num) rfl
    have e1 := iB.cell (j := 1) (v := .int .i64 den) rfl
    rw [hs]
    clear hs
    go_wp2_with fail
    refine (scaledR_any _ p den num w2 (HV.out.carry hB) hS).mono ?_
    rintro e w3 ⟨⟨u, rfl, hu⟩, h3⟩
    have hB3 := bthen hB h3
    clear e0 e1
    have hsl := scaledW_length p den num
    have TL := largeR_any u (scaledW p den num) w3 hu (by omega)
    go_wp2_with fail
    refine TL.mono ?_
    rintro e w4 ⟨rfl, rfl⟩
    clear TL
    by_cases hg : (scaledW p den num).any largeB = true
    · have HE2 := Lib.hid (show within2E p num den = 4 by rw [HE.out, if_pos hg])
      rw [largeE, if_pos hg]
      clear hg hu
      go_wp2
      go_ret2
      exact ⟨by rw [HE2.out, within2R, if_pos (by rw [HE2.out]; simp)]; first | done | rfl, hB3⟩
    · have HE2 := Lib.hid (show within2E p num den = 0 by rw [HE.out, if_neg hg])
      rw [largeE, if_neg hg]
      clear hg
      go_wp2_with fail
      refine (StableR_any u _ w3 hu (by omega)).mono ?_
      rintro e w5 ⟨rfl, h5⟩
      go_wp2
      go_ret2
      exact ⟨by rw [HE2.out, within2R, if_neg (by rw [HE2.out]; simp)]; first | done | rfl, bthen hB3 h5⟩
  · have HE := Lib.hid (show within2E p num den = scal1E p num den by rw [within2E, if_pos hs])
    have HR := Lib.hid (show within2R p num den = false by rw [within2R, if_pos (by rw [HE.out]; exact hs)])
    go_wp2
    go_ret2
    exact ⟨by rw [HE.out, HR.out]; first | done | rfl, hB⟩

set_option maxRecDepth 100000 in
set_option maxHeartbeats 4000000 in
theorem scl_law (v : Value) (p : List Int) (num den : Int) (w : World) (hq : Quarters w) (hpw : Pows w) (hp : Ints w v p) (h1 : -9223372036854775808 ≤ num ∧ num ≤ 9223372036854775807) (h2 : -9223372036854775808 ≤ den ∧ den ≤ 9223372036854775807) :
    Calls Tryz.prog 3 #[v, .agg #[.int .i64 num, .int .i64 den]] w fun e w' => e = .returned (.bool true) ∧ Below w.heap.size w w' := by
  have HP := Lib.hid hp
  have H1 := Lib.hid h1
  have H2 := Lib.hid h2
  obtain ⟨ap, cp, rfl, _⟩ := hp
  clear h1 h2
  by_cases h7 : 7 < p.length
  · have d1 : (7 : Int) < (p.length : Int) := by omega
    go_enter Tryz.func3, Tryz.ntmps3
    go_wp2_with fail
    obtain ⟨W1, hW1⟩ : ∃ v, v = World.alloc w (Obj.cells #[.int .i64 num, .int .i64 den] 24) := ⟨_, rfl⟩
    have kW1 : Below w.heap.size w W1 := by rw [hW1]; exact below_new _ _
    have iW1 : Blk W1 (w.heap.size) 24 [.int .i64 num, .int .i64 den] := by rw [hW1]; exact Blk.new _ _ _
    have sW1 : W1.heap.size = w.heap.size + 1 := by rw [hW1]; simp
    rw [← hW1]
    clear hW1
    clear sW1
    refine (awake_any W1 (hq.below kW1 hq.size) (hpw.below kW1)).mono ?_
    rintro e w2 ⟨rfl, hl2⟩
    go_wp2
    go_ret
    exact ⟨rfl, bthen kW1 hl2⟩
  · have d1 : ¬ (7 : Int) < (p.length : Int) := by omega
    go_enter Tryz.func3, Tryz.ntmps3
    go_upto_region 3 with fail
    obtain ⟨W1, hW1⟩ : ∃ v, v = World.alloc w (Obj.cells #[.int .i64 num, .int .i64 den] 24) := ⟨_, rfl⟩
    have kW1 : Below w.heap.size w W1 := by rw [hW1]; exact below_new _ _
    have iW1 : Blk W1 (w.heap.size) 24 [.int .i64 num, .int .i64 den] := by rw [hW1]; exact Blk.new _ _ _
    have sW1 : W1.heap.size = w.heap.size + 1 := by rw [hW1]; simp
    rw [← hW1]
    clear hW1
    clear sW1
    have hB := kW1
    have iB := iW1
    clear kW1 iW1
    have e0 := iB.cell (j := 0) (v := .int .i64 num) rfl
    have e1 := iB.cell (j := 1) (v := .int .i64 den) rfl
    refine wp_region_held_drew (S := (fun w' => w'.cell? ⟨w.heap.size, 0, none⟩ = some (.int .i64 num) ∧ w'.cell? ⟨w.heap.size, 1, none⟩ = some (.int .i64 den))) (by kernel_rfl) ⟨cellb e0 (Below.refl _ _).drew, cellb e1 (Below.refl _ _).drew⟩ (fun hHeld0 => ?_)
    obtain ⟨wzd, hwz⟩ : ∃ v, v = W1.drew := ⟨_, rfl⟩
    rw [← hwz] at hHeld0 ⊢
    have hbzd : Below W1.heap.size W1 wzd := by rw [hwz]; exact (Below.refl _ _).drew
    have hlzd : Below W1.heap.size W1 wzd := by rw [hwz]; exact (Below.refl _ _).drew
    clear hwz hlzd
    refine wpAnyH_take (i := 0) (oi := { dst := some 18, op := Op.move (Operand.tmp 0), type := 22, pos := "law.go:125", after := #[], guard := none }) (v := ?_) rfl (by kernel_rfl) (by kernel_rfl) (by kernel_rfl) (fun _ _ _ h => h) (Or.inl ⟨by rfl, ?_⟩) (by assumption) ?_
    rotate_left
    · (intro w hSw; (try dsimp only at hSw); go_simp); (try with_reducible rfl)
    try simp only [Act.put, List.setIfInBounds_toArray, List.set_cons_zero, List.set_cons_succ]
    refine wpAnyH_take (i := 2) (oi := { dst := some 20, op := Op.load 24 (Operand.tmp 3), type := 24, pos := "law.go:125", after := #[], guard := none }) (v := ?_) rfl (by kernel_rfl) (by kernel_rfl) (by kernel_rfl) (fun _ _ _ h => h) (Or.inl ⟨by rfl, ?_⟩) (by assumption) ?_
    rotate_left
    · (intro w hSw; (try dsimp only at hSw); go_simp); (try with_reducible rfl)
    try simp only [Act.put, List.setIfInBounds_toArray, List.set_cons_zero, List.set_cons_succ]
    refine wpAnyH_ready (rs := [1]) (by kernel_rfl) (by simp) ?_
    refine (AllReadyH.cons (o := { dst := some 19, op := Op.call { callee := Callee.value (Operand.func 20), args := #[Operand.tmp 18], argTypes := #[22] }, type := 26, pos := "law.go:125", after := #[{ on := 0, ground := Ground.data }], guard := none }) rfl (fun K hK => ?_) AllReadyH.nil)
    go_simp
    refine (polyL_any _ p wzd (HP.out.carry (bthen hB hbzd)) (by omega)).mono ?_
    rintro e wz1 ⟨⟨u1, rfl, hu1⟩, hl⟩
    (try go_wp2_with fail)
    have hbz1 := bthen hbzd hl
    clear hl
    refine hK.out _ _ ⟨cellb e0 hbz1, cellb e1 hbz1⟩ (fun hHeld1 => ?_)
    clear hK K hHeld0
    try simp only [Act.put, List.setIfInBounds_toArray, List.set_cons_zero, List.set_cons_succ]
    refine wpAnyH_ready (rs := [3]) (by kernel_rfl) (by simp) ?_
    refine (AllReadyH.cons (o := { dst := some 21, op := Op.call { callee := Callee.value (Operand.func 19), args := #[Operand.tmp 19, Operand.tmp 20], argTypes := #[26, 24] }, type := 28, pos := "law.go:125", after := #[{ on := 1, ground := Ground.data }, { on := 2, ground := Ground.data }, { on := 1, ground := Ground.chain }], guard := none }) rfl (fun K hK => ?_) AllReadyH.nil)
    go_simp
    refine (Scaled_any u1 p num den wz1 hu1 (by omega) H1.out H2.out).mono ?_
    rintro e wz3 ⟨⟨us, rfl, hus⟩, hl⟩
    (try go_wp2_with fail)
    have hbz3 := bthen hbz1 hl
    have hu1 := hu1.carry hl
    clear hl
    refine hK.out _ _ ⟨cellb e0 hbz3, cellb e1 hbz3⟩ (fun hHeld2 => ?_)
    clear hK K hHeld1
    try simp only [Act.put, List.setIfInBounds_toArray, List.set_cons_zero, List.set_cons_succ]
    refine wpAnyH_take (i := 4) (oi := { dst := some 17, op := Op.move (Operand.tmp 21), type := 28, pos := "law.go:125", after := #[{ on := 3, ground := Ground.data }], guard := none }) (v := ?_) rfl (by kernel_rfl) (by kernel_rfl) (by kernel_rfl) (fun _ _ _ h => h) (Or.inl ⟨by rfl, ?_⟩) (by assumption) ?_
    rotate_left
    · (intro w hSw; (try dsimp only at hSw); go_simp); (try with_reducible rfl)
    try simp only [Act.put, List.setIfInBounds_toArray, List.set_cons_zero, List.set_cons_succ]
    refine wpAnyH_take (i := 5) (oi := { dst := some 22, op := Op.extract (Operand.tmp 17) 0, type := 26, pos := "law.go:125", after := #[{ on := 4, ground := Ground.data }], guard := none }) (v := ?_) rfl (by kernel_rfl) (by kernel_rfl) (by kernel_rfl) (fun _ _ _ h => h) (Or.inl ⟨by rfl, ?_⟩) (by assumption) ?_
    rotate_left
    · (intro w hSw; (try dsimp only at hSw); go_simp); (try with_reducible rfl)
    try simp only [Act.put, List.setIfInBounds_toArray, List.set_cons_zero, List.set_cons_succ]
    refine wpAnyH_take (i := 6) (oi := { dst := some 23, op := Op.extract (Operand.tmp 17) 1, type := 27, pos := "law.go:125", after := #[{ on := 4, ground := Ground.data }, { on := 7, ground := Ground.gcOnly Departure.lateStores }], guard := none }) (v := ?_) rfl (by kernel_rfl) (by kernel_rfl) (by kernel_rfl) (fun _ _ _ h => h) (Or.inl ⟨by rfl, ?_⟩) (by assumption) ?_
    rotate_left
    · (intro w hSw; (try dsimp only at hSw); go_simp); (try with_reducible rfl)
    try simp only [Act.put, List.setIfInBounds_toArray, List.set_cons_zero, List.set_cons_succ]
    refine wpAnyH_take (i := 7) (oi := { dst := some 5, op := Op.assign (Operand.tmp 22), type := 26, pos := "law.go:125", after := #[{ on := 5, ground := Ground.data }, { on := 3, ground := Ground.chain }, { on := 0, ground := Ground.phase }, { on := 1, ground := Ground.phase }, { on := 2, ground := Ground.phase }, { on := 3, ground := Ground.phase }, { on := 4, ground := Ground.phase }, { on := 5, ground := Ground.phase }, { on := 6, ground := Ground.textOnly Departure.lateStores }], guard := none }) (v := ?_) rfl (by kernel_rfl) (by kernel_rfl) (by kernel_rfl) (fun _ _ _ h => h) (Or.inl ⟨by rfl, ?_⟩) (by assumption) ?_
    rotate_left
    · (intro w hSw; (try dsimp only at hSw); go_simp); (try with_reducible rfl)
    try simp only [Act.put, List.setIfInBounds_toArray, List.set_cons_zero, List.set_cons_succ]
    refine wpAnyH_take (i := 8) (oi := { dst := some 6, op := Op.assign (Operand.tmp 23), type := 27, pos := "law.go:125", after := #[{ on := 6, ground := Ground.data }, { on := 7, ground := Ground.chain }, { on := 0, ground := Ground.phase }, { on := 1, ground := Ground.phase }, { on := 2, ground := Ground.phase }, { on := 3, ground := Ground.phase }, { on := 4, ground := Ground.phase }, { on := 5, ground := Ground.phase }, { on := 6, ground := Ground.phase }, { on := 7, ground := Ground.phase }], guard := none }) (v := ?_) rfl (by kernel_rfl) (by kernel_rfl) (by kernel_rfl) (fun _ _ _ h => h) (Or.inl ⟨by rfl, ?_⟩) (by assumption) ?_
    rotate_left
    · (intro w hSw; (try dsimp only at hSw); go_simp); (try with_reducible rfl)
    try simp only [Act.put, List.setIfInBounds_toArray, List.set_cons_zero, List.set_cons_succ]
    refine wpAnyH_done (by kernel_rfl) ?_ _
    clear hHeld2
    clear e0 e1 hu1
    replace hB := bthen hB hbz3
    replace iB := iB.carry hbz3
    go_upto_region 4 with fail
    have e0 := iB.cell (j := 0) (v := .int .i64 num) rfl
    have e1 := iB.cell (j := 1) (v := .int .i64 den) rfl
    obtain ⟨wx4, hwx4⟩ : ∃ v, v = wz3 := ⟨_, rfl⟩
    rw [← hwx4] at hB iB hus e0 e1 ⊢
    clear hwx4
    refine wp_region_held_drew (S := (fun w' => w'.cell? ⟨w.heap.size, 0, none⟩ = some (.int .i64 num) ∧ w'.cell? ⟨w.heap.size, 1, none⟩ = some (.int .i64 den))) (by kernel_rfl) ⟨cellb e0 (Below.refl _ _).drew, cellb e1 (Below.refl _ _).drew⟩ (fun hHeld0 => ?_)
    obtain ⟨wzd, hwz⟩ : ∃ v, v = wx4.drew := ⟨_, rfl⟩
    rw [← hwz] at hHeld0 ⊢
    have hbzd : Below wx4.heap.size wx4 wzd := by rw [hwz]; exact (Below.refl _ _).drew
    have hlzd : Below wx4.heap.size wx4 wzd := by rw [hwz]; exact (Below.refl _ _).drew
    have hus := hus.carry hlzd
    clear hwz hlzd
    refine wpAnyH_take (i := 0) (oi := { dst := some 25, op := Op.move (Operand.tmp 0), type := 22, pos := "law.go:126", after := #[], guard := none }) (v := ?_) rfl (by kernel_rfl) (by kernel_rfl) (by kernel_rfl) (fun _ _ _ h => h) (Or.inl ⟨by rfl, ?_⟩) (by assumption) ?_
    rotate_left
    · (intro w hSw; (try dsimp only at hSw); go_simp); (try with_reducible rfl)
    try simp only [Act.put, List.setIfInBounds_toArray, List.set_cons_zero, List.set_cons_succ]
    refine wpAnyH_take (i := 2) (oi := { dst := some 27, op := Op.load 24 (Operand.tmp 3), type := 24, pos := "law.go:126", after := #[], guard := none }) (v := ?_) rfl (by kernel_rfl) (by kernel_rfl) (by kernel_rfl) (fun _ _ _ h => h) (Or.inl ⟨by rfl, ?_⟩) (by assumption) ?_
    rotate_left
    · (intro w hSw; (try dsimp only at hSw); go_simp); (try with_reducible rfl)
    try simp only [Act.put, List.setIfInBounds_toArray, List.set_cons_zero, List.set_cons_succ]
    refine wpAnyH_ready (rs := [1]) (by kernel_rfl) (by simp) ?_
    refine (AllReadyH.cons (o := { dst := some 26, op := Op.call { callee := Callee.value (Operand.func 20), args := #[Operand.tmp 25], argTypes := #[22] }, type := 26, pos := "law.go:126", after := #[{ on := 0, ground := Ground.data }], guard := none }) rfl (fun K hK => ?_) AllReadyH.nil)
    go_simp
    refine (polyL_any _ p wzd (HP.out.carry (bthen hB hbzd)) (by omega)).mono ?_
    rintro e wz1 ⟨⟨u1, rfl, hu1⟩, hl⟩
    (try go_wp2_with fail)
    have hbz1 := bthen hbzd hl
    have hus := hus.carry hl
    clear hl
    refine hK.out _ _ ⟨cellb e0 hbz1, cellb e1 hbz1⟩ (fun hHeld1 => ?_)
    clear hK K hHeld0
    try simp only [Act.put, List.setIfInBounds_toArray, List.set_cons_zero, List.set_cons_succ]
    refine wpAnyH_ready (rs := [3]) (by kernel_rfl) (by simp) ?_
    refine (AllReadyH.cons (o := { dst := some 28, op := Op.call { callee := Callee.value (Operand.func 21), args := #[Operand.tmp 26, Operand.tmp 27], argTypes := #[26, 24] }, type := 31, pos := "law.go:126", after := #[{ on := 1, ground := Ground.data }, { on := 2, ground := Ground.data }, { on := 1, ground := Ground.chain }], guard := none }) rfl (fun K hK => ?_) AllReadyH.nil)
    go_simp
    refine (Within_any u1 p num den wz1 hu1 (by omega) H1.out H2.out).mono ?_
    rintro e wz3 ⟨rfl, hl⟩
    (try go_wp2_with fail)
    have hbz3 := bthen hbz1 hl
    have hus := hus.carry hl
    have hu1 := hu1.carry hl
    clear hl
    refine hK.out _ _ ⟨cellb e0 hbz3, cellb e1 hbz3⟩ (fun hHeld2 => ?_)
    clear hK K hHeld1
    try simp only [Act.put, List.setIfInBounds_toArray, List.set_cons_zero, List.set_cons_succ]
    refine wpAnyH_take (i := 4) (oi := { dst := some 24, op := Op.move (Operand.tmp 28), type := 31, pos := "law.go:126", after := #[{ on := 3, ground := Ground.data }], guard := none }) (v := ?_) rfl (by kernel_rfl) (by kernel_rfl) (by kernel_rfl) (fun _ _ _ h => h) (Or.inl ⟨by rfl, ?_⟩) (by assumption) ?_
    rotate_left
    · (intro w hSw; (try dsimp only at hSw); go_simp); (try with_reducible rfl)
    try simp only [Act.put, List.setIfInBounds_toArray, List.set_cons_zero, List.set_cons_succ]
    refine wpAnyH_take (i := 5) (oi := { dst := some 29, op := Op.extract (Operand.tmp 24) 0, type := 4, pos := "law.go:126", after := #[{ on := 4, ground := Ground.data }], guard := none }) (v := ?_) rfl (by kernel_rfl) (by kernel_rfl) (by kernel_rfl) (fun _ _ _ h => h) (Or.inl ⟨by rfl, ?_⟩) (by assumption) ?_
    rotate_left
    · (intro w hSw; (try dsimp only at hSw); go_simp); (try with_reducible rfl)
    try simp only [Act.put, List.setIfInBounds_toArray, List.set_cons_zero, List.set_cons_succ]
    refine wpAnyH_take (i := 6) (oi := { dst := some 30, op := Op.extract (Operand.tmp 24) 1, type := 27, pos := "law.go:126", after := #[{ on := 4, ground := Ground.data }, { on := 7, ground := Ground.gcOnly Departure.lateStores }], guard := none }) (v := ?_) rfl (by kernel_rfl) (by kernel_rfl) (by kernel_rfl) (fun _ _ _ h => h) (Or.inl ⟨by rfl, ?_⟩) (by assumption) ?_
    rotate_left
    · (intro w hSw; (try dsimp only at hSw); go_simp); (try with_reducible rfl)
    try simp only [Act.put, List.setIfInBounds_toArray, List.set_cons_zero, List.set_cons_succ]
    refine wpAnyH_take (i := 7) (oi := { dst := some 7, op := Op.assign (Operand.tmp 29), type := 4, pos := "law.go:126", after := #[{ on := 5, ground := Ground.data }, { on := 3, ground := Ground.chain }, { on := 0, ground := Ground.phase }, { on := 1, ground := Ground.phase }, { on := 2, ground := Ground.phase }, { on := 3, ground := Ground.phase }, { on := 4, ground := Ground.phase }, { on := 5, ground := Ground.phase }, { on := 6, ground := Ground.textOnly Departure.lateStores }], guard := none }) (v := ?_) rfl (by kernel_rfl) (by kernel_rfl) (by kernel_rfl) (fun _ _ _ h => h) (Or.inl ⟨by rfl, ?_⟩) (by assumption) ?_
    rotate_left
    · (intro w hSw; (try dsimp only at hSw); go_simp); (try with_reducible rfl)
    try simp only [Act.put, List.setIfInBounds_toArray, List.set_cons_zero, List.set_cons_succ]
    refine wpAnyH_take (i := 8) (oi := { dst := some 8, op := Op.assign (Operand.tmp 30), type := 27, pos := "law.go:126", after := #[{ on := 6, ground := Ground.data }, { on := 7, ground := Ground.chain }, { on := 0, ground := Ground.phase }, { on := 1, ground := Ground.phase }, { on := 2, ground := Ground.phase }, { on := 3, ground := Ground.phase }, { on := 4, ground := Ground.phase }, { on := 5, ground := Ground.phase }, { on := 6, ground := Ground.phase }, { on := 7, ground := Ground.phase }], guard := none }) (v := ?_) rfl (by kernel_rfl) (by kernel_rfl) (by kernel_rfl) (fun _ _ _ h => h) (Or.inl ⟨by rfl, ?_⟩) (by assumption) ?_
    rotate_left
    · (intro w hSw; (try dsimp only at hSw); go_simp); (try with_reducible rfl)
    try simp only [Act.put, List.setIfInBounds_toArray, List.set_cons_zero, List.set_cons_succ]
    refine wpAnyH_done (by kernel_rfl) ?_ _
    clear hHeld2
    clear e0 e1 hu1
    replace hB := bthen hB hbz3
    replace iB := iB.carry hbz3
    obtain ⟨wx5, hwx5⟩ : ∃ v, v = wz3 := ⟨_, rfl⟩
    rw [← hwx5] at hB iB hus ⊢
    clear hwx5
    have e0 := iB.cell (j := 0) (v := .int .i64 num) rfl
    have e1 := iB.cell (j := 1) (v := .int .i64 den) rfl
    go_wp2_with fail
    refine (ScaledR_any _ p num den wx5 (HP.out.carry hB) (by omega)).mono ?_
    rintro e w6 ⟨⟨ur, rfl, hur⟩, hl⟩
    replace hB := bthen hB hl
    replace iB := iB.carry hl
    replace hus := hus.carry hl
    clear e0 e1 hl
    have e0 := iB.cell (j := 0) (v := .int .i64 num) rfl
    have e1 := iB.cell (j := 1) (v := .int .i64 den) rfl
    go_wp2_with fail
    refine (WithinR_any _ p num den w6 (HP.out.carry hB) (by omega)).mono ?_
    rintro e w7 ⟨rfl, hl⟩
    replace hB := bthen hB hl
    replace hus := hus.carry hl
    replace hur := hur.carry hl
    clear e0 e1 hl
    have hrl : (scaledR p num den).length ≤ 1000000 := by
      unfold scaledR
      split
      · simp
      · rw [scaledW_length]; omega
    generalize scaledE p num den = se
    generalize within2E p num den = we
    generalize within2R p num den = wr2
    go_wp2_with fail
    refine (sameInts us ur _ w7 hus hur hrl).mono ?_
    rintro e w8 ⟨rfl, hl⟩
    replace hB := bthen hB hl
    go_wp2_with fail
    refine (awake_any w8 (hq.below hB hq.size) (hpw.below hB)).mono ?_
    rintro e w9 ⟨rfl, hl9⟩
    go_wp2
    go_ret
    exact ⟨rfl, bthen hB hl9⟩

end Go.Proofs.YtnlmaildmeihgaaGreatDoor

/- The package flow at one order: Refused, Latest; Loss at the fixed example. -/
import Derived.Test.YtpkaoechbmbolaaGreatDoorTapA
namespace Go.Proofs.YtpkaoechbmbolaaGreatDoor
set_option linter.unusedSimpArgs false
set_option linter.unusedVariables false
open Go.RowKit

theorem Tryz.enterRef1 (args : Array Value) (w : World) : Sem.run Tryz.prog (callFunc 45 args) w = .ok (.enter 45 args) w :=
  MuLone.run_callFunc_enter Tryz.func45 (by kernel_rfl) rfl args w
theorem Refused1_one (t p : Int) (B : Nat) (w : World) (hok : OkT t p) (hb : t < szT p) (hB : Blk w B 44 [.int .i64 1, .int .i64 (-8), .int .i64 8]) :
    Calls Tryz.prog 45 #[.agg #[.int .i64 t, .int .i64 p, .int .i64 0, .int .i64 0], .pointer (some ⟨B, 0, none⟩)] w fun e w' => e = .returned (.bool true) ∧ Below w.heap.size w w' := by
  have TR := Lib.hid (fun W => refused_one t p W hok)
  rw [show refT t p = 21 from if_pos hb] at TR
  have k1 := below_new w (.cells #[.int .i64 t, .int .i64 p, .int .i64 0, .int .i64 0] 104)
  have i1 := hB.carry k1
  have a0 := i1.cell (j := 0) (v := .int .i64 1) rfl
  have a1 := i1.cell (j := 1) (v := .int .i64 (-8)) rfl
  have a2 := i1.cell (j := 2) (v := .int .i64 8) rfl
  clear hok hb hB i1
  go_enter Tryz.func45, Tryz.ntmps45
  go_wp2_with fail
  refine (TR.out _).mono ?_
  rintro e w2 ⟨rfl, hb2⟩
  go_wp2
  go_ret
  exact ⟨rfl, bthen k1 hb2⟩
set_option maxRecDepth 100000 in
set_option maxHeartbeats 1000000 in
theorem Refused_bad (v : Value) (t p : Int) (w : World) (hv : Ord1 w v t p) (hok : OkT t p) (hbad : t < szT p) :
    Calls Tryz.prog 12 #[.agg #[.int .i64 1, .int .i64 (-8), .int .i64 8], .int .i64 0, v] w fun e w' => e = .returned (.tuple #[.int .i64 0, .bool true, .int .i64 0]) ∧ Below w.heap.size w w' := by
  have TC := Lib.hid (fun W h => check_ok v t p W h hok)
  have TS := Lib.hid (fun W h => steps_one v t p W h)
  have TI := Lib.hid (fun (u : Value) (B : Nat) (W : World) (hu : Stp1 W u t p) (hB : Blk W B 44 [.int .i64 1, .int .i64 (-8), .int .i64 8]) => IndexS_one 45 #[.pointer (some ⟨B, 0, none⟩)] u t p true W hu Tryz.enterRef1 (fun W' hE => Refused1_one t p B W' hok hbad (hB.carry hE)))
  rw [if_pos rfl] at TI
  clear hok hbad
  go_enter Tryz.func12, Tryz.ntmps12
  go_upto_region 1 with fail
  obtain ⟨W1, hW1⟩ : ∃ v, v = World.alloc w (Obj.cells #[.int .i64 1, .int .i64 (-8), .int .i64 8] 44) := ⟨_, rfl⟩
  have kW1 : Below w.heap.size w W1 := by rw [hW1]; exact below_new _ _
  have iW1 : Blk W1 (w.heap.size) 44 [.int .i64 1, .int .i64 (-8), .int .i64 8] := by rw [hW1]; exact Blk.new _ _ _
  have sW1 : W1.heap.size = w.heap.size + 1 := by rw [hW1]; simp
  rw [← hW1]
  clear hW1
  have i1 := iW1
  have a0 := iW1.cell (j := 0) (v := .int .i64 1) rfl
  have a1 := iW1.cell (j := 1) (v := .int .i64 (-8)) rfl
  have a2 := iW1.cell (j := 2) (v := .int .i64 8) rfl
  replace hv := hv.carry kW1
  have hB := kW1
  clear iW1 kW1 sW1
  go_wp2_with fail
  refine (TC.out W1 hv).mono ?_
  rintro e w2 ⟨rfl, hb2⟩
  replace hv := hv.carry hb2
  replace hB := bthen hB hb2
  replace i1 := i1.carry hb2
  clear hb2 a0 a1 a2
  go_wp2_with fail
  refine (TS.out w2 hv).mono ?_
  rintro e w5 ⟨⟨u, rfl, hu⟩, hb5⟩
  replace hB := bthen hB hb5
  replace i1 := i1.carry hb5
  clear hb5 hv
  go_wp2_with fail
  refine (TI.out u w.heap.size w5 hu i1).mono ?_
  rintro e w6 ⟨rfl, hb6⟩
  go_wp2
  go_ret3
  exact ⟨rfl, bthen hB hb6⟩
set_option maxRecDepth 100000 in
set_option maxHeartbeats 2000000 in
theorem Latest_ok (v : Value) (t p : Int) (w : World) (hv : Ord1 w v t p) (hok : OkT t p) (hgood : ¬ t < szT p) :
    Calls Tryz.prog 13 #[.agg #[.int .i64 1, .int .i64 (-8), .int .i64 8], .int .i64 0, v, .int .i64 0] w fun e w' => e = .returned (.tuple #[.int .i64 (t - szT p), .int .i64 0]) ∧ Below w.heap.size w w' := by
  have hsb := szT_bd hok
  have TC := Lib.hid (fun W h => check_ok v t p W h hok)
  have TW := Lib.hid (fun W => whenF_any false 10 W)
  rw [show whenE false 10 = 0 from rfl] at TW
  have TF := Lib.hid (fun (u : Value) (W : World) (h : Ints W u [0, 0]) => firstF_any u [0, 0] W (by simp [maxLen]) h)
  rw [show firstE [0, 0] = 0 from rfl] at TF
  have hr : refT t p = 0 := if_neg hgood
  have TM := Lib.hid (fun (u : Value) (W : World) h => mappedS_one _ _ #[] u t p (refT t p) W h rfl rfl rfl (fun W => refused_one t p W hok))
  rw [hr] at TM
  have TG := Lib.hid (fun (u : Value) (W : World) (h : Ints W u [0]) => firstF_any u [0] W (by simp [maxLen]) h)
  rw [show firstE [0] = 0 from rfl] at TG
  have TCh := Lib.hid (fun W => change_one t p W hok)
  have hob : 0 ≤ t ∧ t ≤ 40 := hok.1
  obtain ⟨sz, hsz⟩ : ∃ sz, sz = szT p := ⟨_, rfl⟩
  rw [← hsz] at TCh hsb ⊢
  have q0 : IntKind.i64.wrap (sz + 1) = sz + 1 := IntWalk.i64_in _ (by omega)
  have q1 : IntKind.i64.wrap (sz + 1 - 1) = sz := by rw [show sz + 1 - 1 = sz by omega]; exact IntWalk.i64_in _ (by omega)
  have q2 : IntKind.i64.wrap sz = sz := IntWalk.i64_in _ (by omega)
  have q3 : IntKind.i64.wrap (t - sz) = t - sz := IntWalk.i64_in _ (by omega)
  have q4 : sz.tdiv 1 = sz := Int.tdiv_one sz
  have TS := Lib.hid (fun (c : Nat) (b off : Nat) W h => steps_one (.slice (some ⟨b, off, none⟩) 1 c) t p W h)
  clear hr hgood hok hsz
  go_enter Tryz.func13, Tryz.ntmps13
  go_upto_region 1 with fail
  obtain ⟨W1, hW1⟩ : ∃ v, v = World.alloc w (Obj.cells #[.int .i64 1, .int .i64 (-8), .int .i64 8] 44) := ⟨_, rfl⟩
  have kW1 : Below w.heap.size w W1 := by rw [hW1]; exact below_new _ _
  have iW1 : Blk W1 (w.heap.size) 44 [.int .i64 1, .int .i64 (-8), .int .i64 8] := by rw [hW1]; exact Blk.new _ _ _
  have sW1 : W1.heap.size = w.heap.size + 1 := by rw [hW1]; simp
  rw [← hW1]
  clear hW1
  have a0 := iW1.cell (j := 0) (v := .int .i64 1) rfl
  have a1 := iW1.cell (j := 1) (v := .int .i64 (-8)) rfl
  have a2 := iW1.cell (j := 2) (v := .int .i64 8) rfl
  replace hv := hv.carry kW1
  have hB := kW1
  clear iW1 kW1 sW1
  have HV := Lib.hid hv
  obtain ⟨b, off, cap, rfl, hcap, _, _⟩ := hv
  go_wp2_with fail
  refine (TC.out W1 HV.out).mono ?_
  rintro e w2 ⟨rfl, hb2⟩
  have hv2 := HV.out.carry hb2
  replace hB := bthen hB hb2
  have a0 := cellb a0 hb2
  have a1 := cellb a1 hb2
  have a2 := cellb a2 hb2
  clear hb2 HV
  have HV := Lib.hid hv2
  clear hv2
  go_wp2_with fail
  refine (TW.out _).mono ?_
  rintro e w3 ⟨rfl, rfl⟩
  go_wp2_with fail
  refine (TF.out _ _ (Ints.lit w2 39 [0, 0] 2 rfl)).mono ?_
  rintro e W4 ⟨rfl, hw4⟩
  have k4 : Below w2.heap.size w2 W4 := by rw [← hw4]; exact below_new _ _
  clear hw4
  have hv4 := HV.out.carry k4
  replace hB := bthen hB k4
  have a0 := cellb a0 k4
  have a1 := cellb a1 k4
  have a2 := cellb a2 k4
  clear k4 HV
  have HV := Lib.hid hv4
  clear hv4
  have hcap2 : (1 : Int) ≤ (cap : Int) := by omega
  go_wp2_with fail
  refine (TS.out cap b off W4 HV.out).mono ?_
  rintro e w5 ⟨⟨u, rfl, hu⟩, hb5⟩
  replace hB := bthen hB hb5
  have a0 := cellb a0 hb5
  have a1 := cellb a1 hb5
  have a2 := cellb a2 hb5
  clear hb5 HV
  go_wp2_with fail
  refine (TM.out u w5 hu).mono ?_
  rintro e w6 ⟨⟨x, rfl, hx⟩, hb6⟩
  replace hB := bthen hB hb6
  replace hu := hu.carry hb6
  replace a0 := cellb a0 hb6
  clear a1 a2 hb6
  go_wp2_with fail
  refine (TG.out x w6 hx).mono ?_
  rintro e w7 ⟨rfl, rfl⟩
  clear hx
  obtain ⟨ub, uo, uc, rfl, _, c0, c1, c2, c3⟩ := hu
  go_upto_region 9 with fail
  obtain ⟨W8, hW8⟩ : ∃ v, v = World.alloc w6 (Obj.cells #[.int .i64 t, .int .i64 p, .int .i64 0, .int .i64 0] 104) := ⟨_, rfl⟩
  have kW8 : Below w6.heap.size w6 W8 := by rw [hW8]; exact below_new _ _
  have iW8 : Blk W8 (w6.heap.size) 104 [.int .i64 t, .int .i64 p, .int .i64 0, .int .i64 0] := by rw [hW8]; exact Blk.new _ _ _
  have sW8 : W8.heap.size = w6.heap.size + 1 := by rw [hW8]; simp
  rw [← hW8]
  clear hW8
  have i8 := iW8
  replace hB := bthen hB kW8
  replace a0 := cellb a0 kW8
  clear iW8 kW8 sW8 c0 c1 c2 c3
  have d0 := i8.cell (j := 0) (v := .int .i64 t) rfl
  have d1 := i8.cell (j := 1) (v := .int .i64 p) rfl
  have d2 := i8.cell (j := 2) (v := .int .i64 0) rfl
  have d3 := i8.cell (j := 3) (v := .int .i64 0) rfl
  clear i8
  refine wp_region_E 99 (by kernel_rfl) ?_
  obtain ⟨wz, hwz⟩ : ∃ v, v = W8.drew := ⟨_, rfl⟩
  rw [← hwz]
  have hlz : Below W8.heap.size W8 wz := by rw [hwz]; exact (Below.refl _ _).drew
  have hbz := bthen hB hlz
  have a0 := cellb a0 hlz
  have d0 := cellb d0 hlz
  have d1 := cellb d1 hlz
  have d2 := cellb d2 hlz
  have d3 := cellb d3 hlz
  clear hwz hlz
  refine wpAnyE_take (i := 0) (oi := { dst := some 50, op := Op.fieldAddr 104 (Operand.tmp 13) 0, type := 0, pos := "order.go:185", after := #[], guard := none }) (v := ?_) rfl (by kernel_rfl) (by kernel_rfl) (by kernel_rfl) (by kernel_rfl) (fun _ _ _ h => h) (Or.inl ⟨by rfl, ?_⟩) ?_
  rotate_left
  · (intro w hE; have a0 := cellb a0 hE; have d0 := cellb d0 hE; have d1 := cellb d1 hE; have d2 := cellb d2 hE; have d3 := cellb d3 hE; (try dsimp only); go_simp); (try with_reducible rfl)
  try simp only [Act.put, List.setIfInBounds_toArray, List.set_cons_zero, List.set_cons_succ]
  refine wpAnyE_take (i := 1) (oi := { dst := some 51, op := Op.fieldAddr 48 (Operand.tmp 50) 0, type := 0, pos := "order.go:185", after := #[{ on := 0, ground := Ground.data }], guard := none }) (v := ?_) rfl (by kernel_rfl) (by kernel_rfl) (by kernel_rfl) (by kernel_rfl) (fun _ _ _ h => h) (Or.inl ⟨by rfl, ?_⟩) ?_
  rotate_left
  · (intro w hE; have a0 := cellb a0 hE; have d0 := cellb d0 hE; have d1 := cellb d1 hE; have d2 := cellb d2 hE; have d3 := cellb d3 hE; (try dsimp only); go_simp); (try with_reducible rfl)
  try simp only [Act.put, List.setIfInBounds_toArray, List.set_cons_zero, List.set_cons_succ]
  refine wpAnyE_take (i := 2) (oi := { dst := some 52, op := Op.load 3 (Operand.tmp 51), type := 3, pos := "order.go:185", after := #[{ on := 1, ground := Ground.data }], guard := none }) (v := ?_) rfl (by kernel_rfl) (by kernel_rfl) (by kernel_rfl) (by kernel_rfl) (fun _ _ _ h => h) (Or.inl ⟨by rfl, ?_⟩) ?_
  rotate_left
  · (intro w hE; have a0 := cellb a0 hE; have d0 := cellb d0 hE; have d1 := cellb d1 hE; have d2 := cellb d2 hE; have d3 := cellb d3 hE; (try dsimp only); go_simp); (try with_reducible rfl)
  try simp only [Act.put, List.setIfInBounds_toArray, List.set_cons_zero, List.set_cons_succ]
  refine wpAnyE_take (i := 3) (oi := { dst := some 53, op := Op.load 104 (Operand.tmp 13), type := 104, pos := "order.go:185", after := #[], guard := none }) (v := ?_) rfl (by kernel_rfl) (by kernel_rfl) (by kernel_rfl) (by kernel_rfl) (fun _ _ _ h => h) (Or.inl ⟨by rfl, ?_⟩) ?_
  rotate_left
  · (intro w hE; have a0 := cellb a0 hE; have d0 := cellb d0 hE; have d1 := cellb d1 hE; have d2 := cellb d2 hE; have d3 := cellb d3 hE; (try dsimp only); go_simp); (try with_reducible rfl)
  try simp only [Act.put, List.setIfInBounds_toArray, List.set_cons_zero, List.set_cons_succ]
  refine wpAnyE_take (i := 5) (oi := { dst := some 55, op := Op.fieldAddr 44 (Operand.tmp 4) 0, type := 0, pos := "order.go:185", after := #[], guard := none }) (v := ?_) rfl (by kernel_rfl) (by kernel_rfl) (by kernel_rfl) (by kernel_rfl) (fun _ _ _ h => h) (Or.inl ⟨by rfl, ?_⟩) ?_
  rotate_left
  · (intro w hE; have a0 := cellb a0 hE; have d0 := cellb d0 hE; have d1 := cellb d1 hE; have d2 := cellb d2 hE; have d3 := cellb d3 hE; (try dsimp only); go_simp); (try with_reducible rfl)
  try simp only [Act.put, List.setIfInBounds_toArray, List.set_cons_zero, List.set_cons_succ]
  refine wpAnyE_take (i := 6) (oi := { dst := some 56, op := Op.load 3 (Operand.tmp 55), type := 3, pos := "order.go:185", after := #[{ on := 5, ground := Ground.data }], guard := none }) (v := ?_) rfl (by kernel_rfl) (by kernel_rfl) (by kernel_rfl) (by kernel_rfl) (fun _ _ _ h => h) (Or.inl ⟨by rfl, ?_⟩) ?_
  rotate_left
  · (intro w hE; have a0 := cellb a0 hE; have d0 := cellb d0 hE; have d1 := cellb d1 hE; have d2 := cellb d2 hE; have d3 := cellb d3 hE; (try dsimp only); go_simp); (try with_reducible rfl)
  try simp only [Act.put, List.setIfInBounds_toArray, List.set_cons_zero, List.set_cons_succ]
  refine wpAnyE_take (i := 9) (oi := { dst := some 59, op := Op.fieldAddr 44 (Operand.tmp 4) 0, type := 0, pos := "order.go:185", after := #[], guard := none }) (v := ?_) rfl (by kernel_rfl) (by kernel_rfl) (by kernel_rfl) (by kernel_rfl) (fun _ _ _ h => h) (Or.inl ⟨by rfl, ?_⟩) ?_
  rotate_left
  · (intro w hE; have a0 := cellb a0 hE; have d0 := cellb d0 hE; have d1 := cellb d1 hE; have d2 := cellb d2 hE; have d3 := cellb d3 hE; (try dsimp only); go_simp); (try with_reducible rfl)
  try simp only [Act.put, List.setIfInBounds_toArray, List.set_cons_zero, List.set_cons_succ]
  refine wpAnyE_take (i := 10) (oi := { dst := some 60, op := Op.load 3 (Operand.tmp 59), type := 3, pos := "order.go:185", after := #[{ on := 9, ground := Ground.data }], guard := none }) (v := ?_) rfl (by kernel_rfl) (by kernel_rfl) (by kernel_rfl) (by kernel_rfl) (fun _ _ _ h => h) (Or.inl ⟨by rfl, ?_⟩) ?_
  rotate_left
  · (intro w hE; have a0 := cellb a0 hE; have d0 := cellb d0 hE; have d1 := cellb d1 hE; have d2 := cellb d2 hE; have d3 := cellb d3 hE; (try dsimp only); go_simp); (try with_reducible rfl)
  try simp only [Act.put, List.setIfInBounds_toArray, List.set_cons_zero, List.set_cons_succ]
  refine wpAnyE_call (i := 4) (oi := { dst := some 54, op := Op.call { callee := Callee.value (Operand.func 47), args := #[Operand.tmp 53], argTypes := #[104] }, type := 3, pos := "order.go:185", after := #[{ on := 3, ground := Ground.data }], guard := none }) (fun w hE => TCh.out w) rfl (by kernel_rfl) (by kernel_rfl) (by kernel_rfl) (by kernel_rfl) (fun _ _ _ h => h) (by rfl) (fun w hE => by (try dsimp only); go_simp) ?_
  try simp only [Act.put, List.setIfInBounds_toArray, List.set_cons_zero, List.set_cons_succ]
  refine wpAnyE_take (i := 7) (oi := { dst := some 57, op := Op.binOp BinOp.add 3 (Operand.tmp 54) (Operand.tmp 56) 3, type := 3, pos := "order.go:185", after := #[{ on := 4, ground := Ground.data }, { on := 6, ground := Ground.data }], guard := none }) (v := ?_) rfl (by kernel_rfl) (by kernel_rfl) (by kernel_rfl) (by kernel_rfl) (fun _ _ _ h => h) (Or.inl ⟨by rfl, ?_⟩) ?_
  rotate_left
  · (intro w hE; have a0 := cellb a0 hE; have d0 := cellb d0 hE; have d1 := cellb d1 hE; have d2 := cellb d2 hE; have d3 := cellb d3 hE; (try dsimp only); go_simp); (try with_reducible rfl)
  try simp only [Act.put, List.setIfInBounds_toArray, List.set_cons_zero, List.set_cons_succ]
  refine wpAnyE_take (i := 8) (oi := { dst := some 58, op := Op.binOp BinOp.sub 3 (Operand.tmp 57) (Operand.const (Value.int IntKind.i64 1)) 3, type := 3, pos := "order.go:185", after := #[{ on := 7, ground := Ground.data }], guard := none }) (v := ?_) rfl (by kernel_rfl) (by kernel_rfl) (by kernel_rfl) (by kernel_rfl) (fun _ _ _ h => h) (Or.inl ⟨by rfl, ?_⟩) ?_
  rotate_left
  · (intro w hE; have a0 := cellb a0 hE; have d0 := cellb d0 hE; have d1 := cellb d1 hE; have d2 := cellb d2 hE; have d3 := cellb d3 hE; (try dsimp only); go_simp); (try with_reducible rfl)
  try simp only [Act.put, List.setIfInBounds_toArray, List.set_cons_zero, List.set_cons_succ]
  refine wpAnyE_take (i := 11) (oi := { dst := some 61, op := Op.binOp BinOp.quo 3 (Operand.tmp 58) (Operand.tmp 60) 3, type := 3, pos := "order.go:185", after := #[{ on := 8, ground := Ground.data }, { on := 10, ground := Ground.data }], guard := none }) (v := ?_) rfl (by kernel_rfl) (by kernel_rfl) (by kernel_rfl) (by kernel_rfl) (fun _ _ _ h => h) (Or.inl ⟨by rfl, ?_⟩) ?_
  rotate_left
  · (intro w hE; have a0 := cellb a0 hE; have d0 := cellb d0 hE; have d1 := cellb d1 hE; have d2 := cellb d2 hE; have d3 := cellb d3 hE; (try dsimp only); go_simp); (try with_reducible rfl)
  try simp only [Act.put, List.setIfInBounds_toArray, List.set_cons_zero, List.set_cons_succ]
  refine wpAnyE_take (i := 12) (oi := { dst := some 62, op := Op.binOp BinOp.sub 3 (Operand.tmp 52) (Operand.tmp 61) 3, type := 3, pos := "order.go:185", after := #[{ on := 2, ground := Ground.data }, { on := 11, ground := Ground.data }], guard := none }) (v := ?_) rfl (by kernel_rfl) (by kernel_rfl) (by kernel_rfl) (by kernel_rfl) (fun _ _ _ h => h) (Or.inl ⟨by rfl, ?_⟩) ?_
  rotate_left
  · (intro w hE; have a0 := cellb a0 hE; have d0 := cellb d0 hE; have d1 := cellb d1 hE; have d2 := cellb d2 hE; have d3 := cellb d3 hE; (try dsimp only); go_simp); (try with_reducible rfl)
  try simp only [Act.put, List.setIfInBounds_toArray, List.set_cons_zero, List.set_cons_succ]
  refine wpAnyE_take (i := 13) (oi := { dst := some 8, op := Op.assign (Operand.tmp 62), type := 3, pos := "order.go:185", after := #[{ on := 12, ground := Ground.data }, { on := 4, ground := Ground.chain }, { on := 0, ground := Ground.phase }, { on := 1, ground := Ground.phase }, { on := 2, ground := Ground.phase }, { on := 3, ground := Ground.phase }, { on := 4, ground := Ground.phase }, { on := 5, ground := Ground.phase }, { on := 6, ground := Ground.phase }, { on := 7, ground := Ground.phase }, { on := 8, ground := Ground.phase }, { on := 9, ground := Ground.phase }, { on := 10, ground := Ground.phase }, { on := 11, ground := Ground.phase }, { on := 12, ground := Ground.phase }], guard := none }) (v := ?_) rfl (by kernel_rfl) (by kernel_rfl) (by kernel_rfl) (by kernel_rfl) (fun _ _ _ h => h) (Or.inl ⟨by rfl, ?_⟩) ?_
  rotate_left
  · (intro w hE; have a0 := cellb a0 hE; have d0 := cellb d0 hE; have d1 := cellb d1 hE; have d2 := cellb d2 hE; have d3 := cellb d3 hE; (try dsimp only); go_simp); (try with_reducible rfl)
  try simp only [Act.put, List.setIfInBounds_toArray, List.set_cons_zero, List.set_cons_succ]
  refine wpAnyE_take (i := 14) (oi := { dst := some 9, op := Op.assign (Operand.const (Value.int IntKind.i64 0)), type := 39, pos := "order.go:185", after := #[{ on := 13, ground := Ground.chain }, { on := 0, ground := Ground.phase }, { on := 1, ground := Ground.phase }, { on := 2, ground := Ground.phase }, { on := 3, ground := Ground.phase }, { on := 4, ground := Ground.phase }, { on := 5, ground := Ground.phase }, { on := 6, ground := Ground.phase }, { on := 7, ground := Ground.phase }, { on := 8, ground := Ground.phase }, { on := 9, ground := Ground.phase }, { on := 10, ground := Ground.phase }, { on := 11, ground := Ground.phase }, { on := 12, ground := Ground.phase }, { on := 13, ground := Ground.phase }], guard := none }) (v := ?_) rfl (by kernel_rfl) (by kernel_rfl) (by kernel_rfl) (by kernel_rfl) (fun _ _ _ h => h) (Or.inl ⟨by rfl, ?_⟩) ?_
  rotate_left
  · (intro w hE; have a0 := cellb a0 hE; have d0 := cellb d0 hE; have d1 := cellb d1 hE; have d2 := cellb d2 hE; have d3 := cellb d3 hE; (try dsimp only); go_simp); (try with_reducible rfl)
  try simp only [Act.put, List.setIfInBounds_toArray, List.set_cons_zero, List.set_cons_succ]
  refine wpAnyE_done (by kernel_rfl) (fun wy1 hE => ?_) _
  have hbz1 := bthen hbz hE
  have a0 := cellb a0 hE
  have d0 := cellb d0 hE
  have d1 := cellb d1 hE
  have d2 := cellb d2 hE
  have d3 := cellb d3 hE
  clear hE
  have hB := hbz1
  obtain ⟨W9, hW9⟩ : ∃ v, v = wy1 := ⟨_, rfl⟩
  rw [← hW9] at hB ⊢
  clear hW9
  go_wp2
  go_ret2
  exact ⟨rfl, hB⟩

set_option maxRecDepth 100000 in
set_option maxHeartbeats 1000000 in
theorem CheckLosses_ok (w : World) : Calls Tryz.prog 78 #[.agg #[.int .i64 1, .int .i64 32, .int .i64 256]] w fun e w' => e = .returned (.int .i64 0) ∧ Below w.heap.size w w' := by
  have T1 := Lib.hid (fun W => withinF_any 1 0 1000 W)
  have T2 := Lib.hid (fun W => withinF_any 32 0 1000 W)
  have T3 := Lib.hid (fun W => withinF_any 256 0 1000 W)
  rw [wiF (by omega)] at T1 T2 T3
  have TF := Lib.hid (fun (u : Value) (W : World) (h : Ints W u [0, 0, 0]) => firstF_any u [0, 0, 0] W (by simp [maxLen]) h)
  rw [show firstE [0, 0, 0] = 0 from rfl] at TF
  go_enter Tryz.func78, Tryz.ntmps78
  go_upto_region 1 with fail
  obtain ⟨W1, hW1⟩ : ∃ v, v = World.alloc w (Obj.cells #[.int .i64 1, .int .i64 32, .int .i64 256] 74) := ⟨_, rfl⟩
  have kW1 : Below w.heap.size w W1 := by rw [hW1]; exact below_new _ _
  have iW1 : Blk W1 (w.heap.size) 74 [.int .i64 1, .int .i64 32, .int .i64 256] := by rw [hW1]; exact Blk.new _ _ _
  have sW1 : W1.heap.size = w.heap.size + 1 := by rw [hW1]; simp
  rw [← hW1]
  clear hW1
  have a0 := iW1.cell (j := 0) (v := .int .i64 1) rfl
  have a1 := iW1.cell (j := 1) (v := .int .i64 32) rfl
  have a2 := iW1.cell (j := 2) (v := .int .i64 256) rfl
  have hB := kW1
  clear iW1 kW1 sW1
  refine wp_region_E 99 (by kernel_rfl) ?_
  obtain ⟨wz, hwz⟩ : ∃ v, v = W1.drew := ⟨_, rfl⟩
  rw [← hwz]
  have hlz : Below W1.heap.size W1 wz := by rw [hwz]; exact (Below.refl _ _).drew
  have hbz := bthen hB hlz
  have a0 := cellb a0 hlz
  have a1 := cellb a1 hlz
  have a2 := cellb a2 hlz
  clear hwz hlz
  refine wpAnyE_take (i := 0) (oi := { dst := some 3, op := Op.fieldAddr 74 (Operand.tmp 1) 0, type := 0, pos := "flow.go:265", after := #[], guard := none }) (v := ?_) rfl (by kernel_rfl) (by kernel_rfl) (by kernel_rfl) (by kernel_rfl) (fun _ _ _ h => h) (Or.inl ⟨by rfl, ?_⟩) ?_
  rotate_left
  · (intro w hE; have a0 := cellb a0 hE; have a1 := cellb a1 hE; have a2 := cellb a2 hE; (try dsimp only); go_simp); (try with_reducible rfl)
  try simp only [Act.put, List.setIfInBounds_toArray, List.set_cons_zero, List.set_cons_succ]
  refine wpAnyE_take (i := 1) (oi := { dst := some 4, op := Op.load 3 (Operand.tmp 3), type := 3, pos := "flow.go:265", after := #[{ on := 0, ground := Ground.data }], guard := none }) (v := ?_) rfl (by kernel_rfl) (by kernel_rfl) (by kernel_rfl) (by kernel_rfl) (fun _ _ _ h => h) (Or.inl ⟨by rfl, ?_⟩) ?_
  rotate_left
  · (intro w hE; have a0 := cellb a0 hE; have a1 := cellb a1 hE; have a2 := cellb a2 hE; (try dsimp only); go_simp); (try with_reducible rfl)
  try simp only [Act.put, List.setIfInBounds_toArray, List.set_cons_zero, List.set_cons_succ]
  refine wpAnyE_take (i := 3) (oi := { dst := some 6, op := Op.fieldAddr 74 (Operand.tmp 1) 1, type := 0, pos := "flow.go:265", after := #[], guard := none }) (v := ?_) rfl (by kernel_rfl) (by kernel_rfl) (by kernel_rfl) (by kernel_rfl) (fun _ _ _ h => h) (Or.inl ⟨by rfl, ?_⟩) ?_
  rotate_left
  · (intro w hE; have a0 := cellb a0 hE; have a1 := cellb a1 hE; have a2 := cellb a2 hE; (try dsimp only); go_simp); (try with_reducible rfl)
  try simp only [Act.put, List.setIfInBounds_toArray, List.set_cons_zero, List.set_cons_succ]
  refine wpAnyE_take (i := 4) (oi := { dst := some 7, op := Op.load 3 (Operand.tmp 6), type := 3, pos := "flow.go:265", after := #[{ on := 3, ground := Ground.data }], guard := none }) (v := ?_) rfl (by kernel_rfl) (by kernel_rfl) (by kernel_rfl) (by kernel_rfl) (fun _ _ _ h => h) (Or.inl ⟨by rfl, ?_⟩) ?_
  rotate_left
  · (intro w hE; have a0 := cellb a0 hE; have a1 := cellb a1 hE; have a2 := cellb a2 hE; (try dsimp only); go_simp); (try with_reducible rfl)
  try simp only [Act.put, List.setIfInBounds_toArray, List.set_cons_zero, List.set_cons_succ]
  refine wpAnyE_take (i := 6) (oi := { dst := some 9, op := Op.fieldAddr 74 (Operand.tmp 1) 2, type := 0, pos := "flow.go:265", after := #[], guard := none }) (v := ?_) rfl (by kernel_rfl) (by kernel_rfl) (by kernel_rfl) (by kernel_rfl) (fun _ _ _ h => h) (Or.inl ⟨by rfl, ?_⟩) ?_
  rotate_left
  · (intro w hE; have a0 := cellb a0 hE; have a1 := cellb a1 hE; have a2 := cellb a2 hE; (try dsimp only); go_simp); (try with_reducible rfl)
  try simp only [Act.put, List.setIfInBounds_toArray, List.set_cons_zero, List.set_cons_succ]
  refine wpAnyE_take (i := 7) (oi := { dst := some 10, op := Op.load 3 (Operand.tmp 9), type := 3, pos := "flow.go:265", after := #[{ on := 6, ground := Ground.data }], guard := none }) (v := ?_) rfl (by kernel_rfl) (by kernel_rfl) (by kernel_rfl) (by kernel_rfl) (fun _ _ _ h => h) (Or.inl ⟨by rfl, ?_⟩) ?_
  rotate_left
  · (intro w hE; have a0 := cellb a0 hE; have a1 := cellb a1 hE; have a2 := cellb a2 hE; (try dsimp only); go_simp); (try with_reducible rfl)
  try simp only [Act.put, List.setIfInBounds_toArray, List.set_cons_zero, List.set_cons_succ]
  refine wpAnyE_call (i := 2) (oi := { dst := some 5, op := Op.call { callee := Callee.value (Operand.func 38), args := #[Operand.tmp 4, Operand.const (Value.int IntKind.i64 0), Operand.const (Value.int IntKind.i64 1000)], argTypes := #[3, 3, 3] }, type := 39, pos := "flow.go:265", after := #[{ on := 1, ground := Ground.data }], guard := none }) (fun w hE => ofPure (T1.out w)) rfl (by kernel_rfl) (by kernel_rfl) (by kernel_rfl) (by kernel_rfl) (fun _ _ _ h => h) (by rfl) (fun w hE => by (try dsimp only); go_simp) ?_
  try simp only [Act.put, List.setIfInBounds_toArray, List.set_cons_zero, List.set_cons_succ]
  refine wpAnyE_call (i := 5) (oi := { dst := some 8, op := Op.call { callee := Callee.value (Operand.func 38), args := #[Operand.tmp 7, Operand.const (Value.int IntKind.i64 0), Operand.const (Value.int IntKind.i64 1000)], argTypes := #[3, 3, 3] }, type := 39, pos := "flow.go:265", after := #[{ on := 4, ground := Ground.data }, { on := 2, ground := Ground.chain }], guard := none }) (fun w hE => ofPure (T2.out w)) rfl (by kernel_rfl) (by kernel_rfl) (by kernel_rfl) (by kernel_rfl) (fun _ _ _ h => h) (by rfl) (fun w hE => by (try dsimp only); go_simp) ?_
  try simp only [Act.put, List.setIfInBounds_toArray, List.set_cons_zero, List.set_cons_succ]
  refine wpAnyE_call (i := 8) (oi := { dst := some 11, op := Op.call { callee := Callee.value (Operand.func 38), args := #[Operand.tmp 10, Operand.const (Value.int IntKind.i64 0), Operand.const (Value.int IntKind.i64 1000)], argTypes := #[3, 3, 3] }, type := 39, pos := "flow.go:265", after := #[{ on := 7, ground := Ground.data }, { on := 5, ground := Ground.chain }], guard := none }) (fun w hE => ofPure (T3.out w)) rfl (by kernel_rfl) (by kernel_rfl) (by kernel_rfl) (by kernel_rfl) (fun _ _ _ h => h) (by rfl) (fun w hE => by (try dsimp only); go_simp) ?_
  try simp only [Act.put, List.setIfInBounds_toArray, List.set_cons_zero, List.set_cons_succ]
  refine wpAnyE_one (i := 9) (o := { dst := some 12, op := Op.buildSlice 101 3 #[(0, Operand.tmp 5), (1, Operand.tmp 8), (2, Operand.tmp 11)], type := 101, pos := "flow.go:265", after := #[{ on := 2, ground := Ground.data }, { on := 5, ground := Ground.data }, { on := 8, ground := Ground.data }], guard := none }) (by kernel_rfl) rfl (fun wy1 hE K hK => ?_)
  have a0 := cellb a0 hE
  have a1 := cellb a1 hE
  have a2 := cellb a2 hE
  have hbz1 := bthen hbz hE
  clear hE
  go_simp
  obtain ⟨wx1, hwz⟩ : ∃ v, v = wy1.alloc (Obj.cells #[.int .i64 0, .int .i64 0, .int .i64 0] 39) := ⟨_, rfl⟩
  rw [← hwz]
  have hl : Below wy1.heap.size wy1 wx1 := by rw [hwz]; exact below_new _ _
  have hcz1 := bthen hbz1 hl
  have iN : BlkI wx1 wy1.heap.size 39 [0, 0, 0] := by rw [hwz]; exact Blk.new _ _ _
  generalize wy1.heap.size = G at iN ⊢
  have a0 := cellb a0 hl
  have a1 := cellb a1 hl
  have a2 := cellb a2 hl
  clear hwz
  refine hK _ _ (fun _ => hl) ?_
  clear hK K hl
  try simp only [Act.put, List.setIfInBounds_toArray, List.set_cons_zero, List.set_cons_succ]
  refine wpAnyE_call (i := 10) (oi := { dst := some 13, op := Op.call { callee := Callee.value (Operand.func 36), args := #[Operand.tmp 12], argTypes := #[101] }, type := 39, pos := "flow.go:265", after := #[{ on := 9, ground := Ground.data }, { on := 8, ground := Ground.chain }], guard := none }) (fun w hE => ofPure (TF.out _ w ((BlkI.ints iN rfl).carry hE))) rfl (by kernel_rfl) (by kernel_rfl) (by kernel_rfl) (by kernel_rfl) (fun _ _ _ h => h) (by rfl) (fun w hE => by (try dsimp only); go_simp) ?_
  try simp only [Act.put, List.setIfInBounds_toArray, List.set_cons_zero, List.set_cons_succ]
  refine wpAnyE_take (i := 11) (oi := { dst := some 2, op := Op.assign (Operand.tmp 13), type := 39, pos := "flow.go:265", after := #[{ on := 10, ground := Ground.data }, { on := 10, ground := Ground.chain }, { on := 0, ground := Ground.phase }, { on := 1, ground := Ground.phase }, { on := 2, ground := Ground.phase }, { on := 3, ground := Ground.phase }, { on := 4, ground := Ground.phase }, { on := 5, ground := Ground.phase }, { on := 6, ground := Ground.phase }, { on := 7, ground := Ground.phase }, { on := 8, ground := Ground.phase }, { on := 9, ground := Ground.phase }, { on := 10, ground := Ground.phase }], guard := none }) (v := ?_) rfl (by kernel_rfl) (by kernel_rfl) (by kernel_rfl) (by kernel_rfl) (fun _ _ _ h => h) (Or.inl ⟨by rfl, ?_⟩) ?_
  rotate_left
  · (intro w hE; have a0 := cellb a0 hE; have a1 := cellb a1 hE; have a2 := cellb a2 hE; (try dsimp only); go_simp); (try with_reducible rfl)
  try simp only [Act.put, List.setIfInBounds_toArray, List.set_cons_zero, List.set_cons_succ]
  refine wpAnyE_done (by kernel_rfl) (fun wy2 hE => ?_) _
  have hbz2 := bthen hcz1 hE
  have a0 := cellb a0 hE
  have a1 := cellb a1 hE
  have a2 := cellb a2 hE
  clear hE
  have hB := hbz2
  obtain ⟨W9, hW9⟩ : ∃ v, v = wy2 := ⟨_, rfl⟩
  rw [← hW9] at hB ⊢
  clear hW9 a0 a1 a2
  go_wp2
  go_ret
  exact ⟨rfl, hB⟩
theorem Tryz.sizeIv : (Tryz.prog.info? 76).map (fun x => x.size) = some 2 := by kernel_rfl

set_option maxRecDepth 100000 in
set_option maxHeartbeats 1000000 in
theorem loss64 (w : World) : Calls Tryz.prog 53 #[.agg #[.int .i64 1, .int .i64 32, .int .i64 256], .int .i64 64] w fun e w' => e = .returned (.agg #[.int .i64 4, .int .i64 4]) ∧ Below w.heap.size w w' := by
  go_enter Tryz.func53, Tryz.ntmps53
  go_upto_region 1 with fail
  obtain ⟨W1, hW1⟩ : ∃ v, v = World.alloc w (Obj.cells #[.int .i64 1, .int .i64 32, .int .i64 256] 74) := ⟨_, rfl⟩
  have kW1 : Below w.heap.size w W1 := by rw [hW1]; exact below_new _ _
  have iW1 : Blk W1 (w.heap.size) 74 [.int .i64 1, .int .i64 32, .int .i64 256] := by rw [hW1]; exact Blk.new _ _ _
  have sW1 : W1.heap.size = w.heap.size + 1 := by rw [hW1]; simp
  rw [← hW1]
  clear hW1
  obtain ⟨W2, hW2⟩ : ∃ v, v = World.alloc W1 (Obj.cells #[.int .i64 0, .int .i64 0] 76) := ⟨_, rfl⟩
  have kW2 : Below W1.heap.size W1 W2 := by rw [hW2]; exact below_new _ _
  have iW2 : Blk W2 (w.heap.size + 1) 76 [.int .i64 0, .int .i64 0] := by rw [hW2, ← sW1]; exact Blk.new _ _ _
  have sW2 : W2.heap.size = w.heap.size + 1 + 1 := by rw [hW2]; simp [sW1]
  rw [← hW2]
  clear hW2
  have i1 := iW1.carry kW2
  have i2 := iW2
  have hB : Below w.heap.size w W2 := bthen kW1 kW2
  have a0 := i1.cell (j := 0) (v := .int .i64 1) rfl
  have a1 := i1.cell (j := 1) (v := .int .i64 32) rfl
  have a2 := i1.cell (j := 2) (v := .int .i64 256) rfl
  have c0 := i2.cell (j := 0) (v := .int .i64 0) rfl
  have c1 := i2.cell (j := 1) (v := .int .i64 0) rfl
  have f0 := i2.frozen 0
  have f1 := i2.frozen 1
  clear iW1 kW1 sW1 iW2 kW2 sW2 i1
  go_wp2_with fail
  have h9 := (i2.set 0 (.int .i64 4)).set 1 (.int .i64 4)
  have z0 := h9.cell (j := 0) (v := .int .i64 4) rfl
  have z1 := h9.cell (j := 1) (v := .int .i64 4) rfl
  exact bodyPost_ret (v := .agg #[.int .i64 4, .int .i64 4]) (by simp [results, Tryz.f53, go_sem, z0, z1]) rfl ⟨rfl, (hB.setCell (by simp) _).setCell (by simp) _⟩
set_option maxRecDepth 100000 in
set_option maxHeartbeats 1000000 in
theorem checkLoss64 (w : World) : Calls Tryz.prog 52 #[.agg #[.int .i64 1, .int .i64 32, .int .i64 256], .int .i64 64] w fun e w' => e = .returned (.int .i64 0) ∧ Below w.heap.size w w' := by
  have T1 := Lib.hid (fun W => CheckLosses_ok W)
  have T2 := Lib.hid (fun W => withinF_any 64 0 1000 W)
  rw [wiF (by omega)] at T2
  have TF := Lib.hid (fun (u : Value) (W : World) (h : Ints W u [0, 0]) => firstF_any u [0, 0] W (by simp [maxLen]) h)
  rw [show firstE [0, 0] = 0 from rfl] at TF
  have k1 := below_new w (.cells #[.int .i64 1, .int .i64 32, .int .i64 256] 74)
  go_enter Tryz.func52, Tryz.ntmps52
  go_wp2_with fail
  refine (T1.out _).mono ?_
  rintro e w2 ⟨rfl, hb2⟩
  go_wp2_with fail
  refine (T2.out _).mono ?_
  rintro e w3 ⟨rfl, rfl⟩
  go_wp2_with fail
  refine (TF.out _ _ (Ints.lit w2 39 [0, 0] 2 rfl)).mono ?_
  rintro e W4 ⟨rfl, hw4⟩
  have k4 : Below w2.heap.size w2 W4 := by rw [← hw4]; exact below_new _ _
  clear hw4
  go_wp2
  go_ret
  exact ⟨rfl, bthen (bthen k1 hb2) k4⟩
set_option maxRecDepth 100000 in
set_option maxHeartbeats 1000000 in
theorem Loss64 (w : World) : Calls Tryz.prog 22 #[.agg #[.int .i64 1, .int .i64 32, .int .i64 256], .int .i64 64] w fun e w' => e = .returned (.tuple #[.agg #[.int .i64 4, .int .i64 4], .int .i64 0]) ∧ Below w.heap.size w w' := by
  have T1 := Lib.hid (fun W => checkLoss64 W)
  have T2 := Lib.hid (fun W => loss64 W)
  go_enter Tryz.func22, Tryz.ntmps22
  go_upto_region 1 with fail
  obtain ⟨W1, hW1⟩ : ∃ v, v = World.alloc w (Obj.cells #[.int .i64 1, .int .i64 32, .int .i64 256] 74) := ⟨_, rfl⟩
  have kW1 : Below w.heap.size w W1 := by rw [hW1]; exact below_new _ _
  have iW1 : Blk W1 (w.heap.size) 74 [.int .i64 1, .int .i64 32, .int .i64 256] := by rw [hW1]; exact Blk.new _ _ _
  have sW1 : W1.heap.size = w.heap.size + 1 := by rw [hW1]; simp
  rw [← hW1]
  clear hW1
  obtain ⟨W2, hW2⟩ : ∃ v, v = World.alloc W1 (Obj.cells #[.int .i64 0, .int .i64 0] 76) := ⟨_, rfl⟩
  have kW2 : Below W1.heap.size W1 W2 := by rw [hW2]; exact below_new _ _
  have iW2 : Blk W2 (w.heap.size + 1) 76 [.int .i64 0, .int .i64 0] := by rw [hW2, ← sW1]; exact Blk.new _ _ _
  have sW2 : W2.heap.size = w.heap.size + 1 + 1 := by rw [hW2]; simp [sW1]
  rw [← hW2]
  clear hW2
  have i1 := iW1.carry kW2
  have i2 : BlkI W2 (w.heap.size + 1) 76 [0, 0] := iW2
  have hB : Below w.heap.size w W2 := bthen kW1 kW2
  have a0 := i1.cell (j := 0) (v := .int .i64 1) rfl
  have a1 := i1.cell (j := 1) (v := .int .i64 32) rfl
  have a2 := i1.cell (j := 2) (v := .int .i64 256) rfl
  clear iW1 kW1 sW1 iW2 kW2 sW2
  go_wp2_with fail
  refine (T1.out W2).mono ?_
  rintro e w3 ⟨rfl, hb3⟩
  replace hB := bthen hB hb3
  replace i2 : BlkI w3 (w.heap.size + 1) 76 [0, 0] := Blk.carry i2 hb3
  replace a0 := cellb a0 hb3
  replace a1 := cellb a1 hb3
  replace a2 := cellb a2 hb3
  clear hb3 i1
  go_wp2_with fail
  refine (T2.out w3).mono ?_
  rintro e w4 ⟨rfl, hb4⟩
  replace hB := bthen hB hb4
  replace i2 : BlkI w4 (w.heap.size + 1) 76 [0, 0] := Blk.carry i2 hb4
  clear hb4 a0 a1 a2
  have c0 := BlkI.cell i2 (j := 0) (by simp)
  have c1 := BlkI.cell i2 (j := 1) (by simp)
  have f0 := Blk.frozen i2 0
  have f1 := Blk.frozen i2 1
  go_wp2_with fail
  have h9 := (Blk.set i2 0 (.int .i64 4)).set 1 (.int .i64 4)
  have z0 := h9.cell (j := 0) (v := .int .i64 4) rfl
  have z1 := h9.cell (j := 1) (v := .int .i64 4) rfl
  exact bodyPost_ret (v := .tuple #[.agg #[.int .i64 4, .int .i64 4], .int .i64 0]) (by simp [results, Tryz.f22, go_sem, z0, z1]) rfl ⟨rfl, (hB.setCell (by simp) _).setCell (by simp) _⟩

set_option maxRecDepth 100000 in
set_option maxHeartbeats 1000000 in
theorem loss32 (w : World) : Calls Tryz.prog 53 #[.agg #[.int .i64 1, .int .i64 32, .int .i64 256], .int .i64 32] w fun e w' => e = .returned (.agg #[.int .i64 2, .int .i64 3]) ∧ Below w.heap.size w w' := by
  go_enter Tryz.func53, Tryz.ntmps53
  go_upto_region 1 with fail
  obtain ⟨W1, hW1⟩ : ∃ v, v = World.alloc w (Obj.cells #[.int .i64 1, .int .i64 32, .int .i64 256] 74) := ⟨_, rfl⟩
  have kW1 : Below w.heap.size w W1 := by rw [hW1]; exact below_new _ _
  have iW1 : Blk W1 (w.heap.size) 74 [.int .i64 1, .int .i64 32, .int .i64 256] := by rw [hW1]; exact Blk.new _ _ _
  have sW1 : W1.heap.size = w.heap.size + 1 := by rw [hW1]; simp
  rw [← hW1]
  clear hW1
  obtain ⟨W2, hW2⟩ : ∃ v, v = World.alloc W1 (Obj.cells #[.int .i64 0, .int .i64 0] 76) := ⟨_, rfl⟩
  have kW2 : Below W1.heap.size W1 W2 := by rw [hW2]; exact below_new _ _
  have iW2 : Blk W2 (w.heap.size + 1) 76 [.int .i64 0, .int .i64 0] := by rw [hW2, ← sW1]; exact Blk.new _ _ _
  have sW2 : W2.heap.size = w.heap.size + 1 + 1 := by rw [hW2]; simp [sW1]
  rw [← hW2]
  clear hW2
  have i1 := iW1.carry kW2
  have i2 := iW2
  have hB : Below w.heap.size w W2 := bthen kW1 kW2
  have a0 := i1.cell (j := 0) (v := .int .i64 1) rfl
  have a1 := i1.cell (j := 1) (v := .int .i64 32) rfl
  have a2 := i1.cell (j := 2) (v := .int .i64 256) rfl
  have c0 := i2.cell (j := 0) (v := .int .i64 0) rfl
  have c1 := i2.cell (j := 1) (v := .int .i64 0) rfl
  have f0 := i2.frozen 0
  have f1 := i2.frozen 1
  clear iW1 kW1 sW1 iW2 kW2 sW2 i1
  go_wp2_with fail
  have h9 := (i2.set 0 (.int .i64 2)).set 1 (.int .i64 3)
  have z0 := h9.cell (j := 0) (v := .int .i64 2) rfl
  have z1 := h9.cell (j := 1) (v := .int .i64 3) rfl
  exact bodyPost_ret (v := .agg #[.int .i64 2, .int .i64 3]) (by simp [results, Tryz.f53, go_sem, z0, z1]) rfl ⟨rfl, (hB.setCell (by simp) _).setCell (by simp) _⟩
set_option maxRecDepth 100000 in
set_option maxHeartbeats 1000000 in
theorem checkLoss32 (w : World) : Calls Tryz.prog 52 #[.agg #[.int .i64 1, .int .i64 32, .int .i64 256], .int .i64 32] w fun e w' => e = .returned (.int .i64 0) ∧ Below w.heap.size w w' := by
  have T1 := Lib.hid (fun W => CheckLosses_ok W)
  have T2 := Lib.hid (fun W => withinF_any 32 0 1000 W)
  rw [wiF (by omega)] at T2
  have TF := Lib.hid (fun (u : Value) (W : World) (h : Ints W u [0, 0]) => firstF_any u [0, 0] W (by simp [maxLen]) h)
  rw [show firstE [0, 0] = 0 from rfl] at TF
  have k1 := below_new w (.cells #[.int .i64 1, .int .i64 32, .int .i64 256] 74)
  go_enter Tryz.func52, Tryz.ntmps52
  go_wp2_with fail
  refine (T1.out _).mono ?_
  rintro e w2 ⟨rfl, hb2⟩
  go_wp2_with fail
  refine (T2.out _).mono ?_
  rintro e w3 ⟨rfl, rfl⟩
  go_wp2_with fail
  refine (TF.out _ _ (Ints.lit w2 39 [0, 0] 2 rfl)).mono ?_
  rintro e W4 ⟨rfl, hw4⟩
  have k4 : Below w2.heap.size w2 W4 := by rw [← hw4]; exact below_new _ _
  clear hw4
  go_wp2
  go_ret
  exact ⟨rfl, bthen (bthen k1 hb2) k4⟩
set_option maxRecDepth 100000 in
set_option maxHeartbeats 1000000 in
theorem Loss32 (w : World) : Calls Tryz.prog 22 #[.agg #[.int .i64 1, .int .i64 32, .int .i64 256], .int .i64 32] w fun e w' => e = .returned (.tuple #[.agg #[.int .i64 2, .int .i64 3], .int .i64 0]) ∧ Below w.heap.size w w' := by
  have T1 := Lib.hid (fun W => checkLoss32 W)
  have T2 := Lib.hid (fun W => loss32 W)
  go_enter Tryz.func22, Tryz.ntmps22
  go_upto_region 1 with fail
  obtain ⟨W1, hW1⟩ : ∃ v, v = World.alloc w (Obj.cells #[.int .i64 1, .int .i64 32, .int .i64 256] 74) := ⟨_, rfl⟩
  have kW1 : Below w.heap.size w W1 := by rw [hW1]; exact below_new _ _
  have iW1 : Blk W1 (w.heap.size) 74 [.int .i64 1, .int .i64 32, .int .i64 256] := by rw [hW1]; exact Blk.new _ _ _
  have sW1 : W1.heap.size = w.heap.size + 1 := by rw [hW1]; simp
  rw [← hW1]
  clear hW1
  obtain ⟨W2, hW2⟩ : ∃ v, v = World.alloc W1 (Obj.cells #[.int .i64 0, .int .i64 0] 76) := ⟨_, rfl⟩
  have kW2 : Below W1.heap.size W1 W2 := by rw [hW2]; exact below_new _ _
  have iW2 : Blk W2 (w.heap.size + 1) 76 [.int .i64 0, .int .i64 0] := by rw [hW2, ← sW1]; exact Blk.new _ _ _
  have sW2 : W2.heap.size = w.heap.size + 1 + 1 := by rw [hW2]; simp [sW1]
  rw [← hW2]
  clear hW2
  have i1 := iW1.carry kW2
  have i2 : BlkI W2 (w.heap.size + 1) 76 [0, 0] := iW2
  have hB : Below w.heap.size w W2 := bthen kW1 kW2
  have a0 := i1.cell (j := 0) (v := .int .i64 1) rfl
  have a1 := i1.cell (j := 1) (v := .int .i64 32) rfl
  have a2 := i1.cell (j := 2) (v := .int .i64 256) rfl
  clear iW1 kW1 sW1 iW2 kW2 sW2
  go_wp2_with fail
  refine (T1.out W2).mono ?_
  rintro e w3 ⟨rfl, hb3⟩
  replace hB := bthen hB hb3
  replace i2 : BlkI w3 (w.heap.size + 1) 76 [0, 0] := Blk.carry i2 hb3
  replace a0 := cellb a0 hb3
  replace a1 := cellb a1 hb3
  replace a2 := cellb a2 hb3
  clear hb3 i1
  go_wp2_with fail
  refine (T2.out w3).mono ?_
  rintro e w4 ⟨rfl, hb4⟩
  replace hB := bthen hB hb4
  replace i2 : BlkI w4 (w.heap.size + 1) 76 [0, 0] := Blk.carry i2 hb4
  clear hb4 a0 a1 a2
  have c0 := BlkI.cell i2 (j := 0) (by simp)
  have c1 := BlkI.cell i2 (j := 1) (by simp)
  have f0 := Blk.frozen i2 0
  have f1 := Blk.frozen i2 1
  go_wp2_with fail
  have h9 := (Blk.set i2 0 (.int .i64 2)).set 1 (.int .i64 3)
  have z0 := h9.cell (j := 0) (v := .int .i64 2) rfl
  have z1 := h9.cell (j := 1) (v := .int .i64 3) rfl
  exact bodyPost_ret (v := .tuple #[.agg #[.int .i64 2, .int .i64 3], .int .i64 0]) (by simp [results, Tryz.f22, go_sem, z0, z1]) rfl ⟨rfl, (hB.setCell (by simp) _).setCell (by simp) _⟩
end Go.Proofs.YtpkaoechbmbolaaGreatDoor

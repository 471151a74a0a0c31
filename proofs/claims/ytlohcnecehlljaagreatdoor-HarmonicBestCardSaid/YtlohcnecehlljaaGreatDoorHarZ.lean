/- The package harmonic: inside and outside of a polygon, its extreme corner. -/
import Derived.Test.YtlohcnecehlljaaGreatDoorHarY
namespace Go.Proofs.YtlohcnecehlljaaGreatDoor
set_option linter.unusedSimpArgs false
set_option linter.unusedVariables false
open Go.RowKit

theorem Tryz.enterOutside1 (args : Array Value) (w : World) : Sem.run Tryz.prog (callFunc 150 args) w = .ok (.enter 150 args) w :=
  MuLone.run_callFunc_enter Tryz.func150 (by kernel_rfl) rfl args w
set_option maxRecDepth 100000 in
set_option maxHeartbeats 1000000 in
theorem outside1_any (x : I4) (p : Int × Int) (den : Int) (B D : Nat) (w : World) (hb : Blk w B 98 [.int .i64 p.1, .int .i64 p.2]) (hd : w.cell? ⟨D, 0, none⟩ = some (.int .i64 den)) :
    Calls Tryz.prog 150 #[.agg #[.int .i64 x.1, .int .i64 x.2.1, .int .i64 x.2.2.1, .int .i64 x.2.2.2], .pointer (some ⟨B, 0, none⟩), .pointer (some ⟨D, 0, none⟩)] w fun e w' => e = .returned (.bool (negB (sideE x p den))) ∧ Below w.heap.size w w' := by
  have TS := Lib.hid (fun W => side_any x p den W)
  generalize sideE x p den = s at TS ⊢
  obtain ⟨fr, fi, tr, ti⟩ := x
  obtain ⟨pr, qi⟩ := p
  simp only at TS hb ⊢
  have b0 := hb.cell (j := 0) (v := .int .i64 pr) rfl
  have b1 := hb.cell (j := 1) (v := .int .i64 qi) rfl
  clear hb
  go_enter Tryz.func150, Tryz.ntmps150
  go_upto_region 1 with fail
  obtain ⟨W1, hW1⟩ : ∃ v, v = World.alloc w (Obj.cells #[.int .i64 fr, .int .i64 fi, .int .i64 tr, .int .i64 ti] 146) := ⟨_, rfl⟩
  have kW1 : Below w.heap.size w W1 := by rw [hW1]; exact below_new _ _
  have iW1 : Blk W1 (w.heap.size) 146 [.int .i64 fr, .int .i64 fi, .int .i64 tr, .int .i64 ti] := by rw [hW1]; exact Blk.new _ _ _
  have sW1 : W1.heap.size = w.heap.size + 1 := by rw [hW1]; simp
  rw [← hW1]
  clear hW1
  have a0 := iW1.cell (j := 0) (v := .int .i64 fr) rfl
  have a1 := iW1.cell (j := 1) (v := .int .i64 fi) rfl
  have a2 := iW1.cell (j := 2) (v := .int .i64 tr) rfl
  have a3 := iW1.cell (j := 3) (v := .int .i64 ti) rfl
  have b0 := cellb b0 kW1
  have b1 := cellb b1 kW1
  have hd := cellb hd kW1
  go_wp2_with fail
  refine (TS.out W1).mono ?_
  rintro e w2 ⟨rfl, hl⟩
  go_wp2
  go_ret
  exact ⟨rfl, bthen kW1 hl⟩

/-- the first edge to whose right a point is. -/
def outL (l : List (Int × Int)) (p : Int × Int) (den : Int) : Int := findX (fun x => negB (sideE x p den)) (edgesL l)
set_option maxRecDepth 100000 in
set_option maxHeartbeats 1000000 in
theorem outside_any (v : Value) (l : List (Int × Int)) (p : Int × Int) (den : Int) (w : World) (hv : Pairs w v l) (hl : l.length ≤ 1000000) :
    Calls Tryz.prog 105 #[v, .agg #[.int .i64 p.1, .int .i64 p.2], .int .i64 den] w fun e w' => e = .returned (.int .i64 (outL l p den)) ∧ Below w.heap.size w w' := by
  obtain ⟨R, hR⟩ : ∃ R, R = outL l p den := ⟨_, rfl⟩
  rw [← hR]
  rw [outL] at hR
  have HR := Lib.hid hR
  clear hR
  have HV := Lib.hid hv
  obtain ⟨a, cp, rfl, _, _⟩ := id hv
  clear hv
  go_enter Tryz.func105, Tryz.ntmps105
  go_upto_region 1 with fail
  obtain ⟨W1, hW1⟩ : ∃ v, v = World.alloc w (Obj.cells #[.int .i64 p.1, .int .i64 p.2] 98) := ⟨_, rfl⟩
  have kW1 : Below w.heap.size w W1 := by rw [hW1]; exact below_new _ _
  have iW1 : Blk W1 (w.heap.size) 98 [.int .i64 p.1, .int .i64 p.2] := by rw [hW1]; exact Blk.new _ _ _
  have sW1 : W1.heap.size = w.heap.size + 1 := by rw [hW1]; simp
  rw [← hW1]
  clear hW1
  obtain ⟨W2, hW2⟩ : ∃ v, v = World.alloc W1 (Obj.cells #[.int .i64 den] 3) := ⟨_, rfl⟩
  have kW2 : Below W1.heap.size W1 W2 := by rw [hW2]; exact below_new _ _
  have iW2 : Blk W2 (w.heap.size + 1) 3 [.int .i64 den] := by rw [hW2, ← sW1]; exact Blk.new _ _ _
  have sW2 : W2.heap.size = w.heap.size + 1 + 1 := by rw [hW2]; simp [sW1]
  rw [← hW2]
  clear hW2
  have i1 := iW1.carry kW2
  have d0 := iW2.cell (j := 0) (v := .int .i64 den) rfl
  have hB := bthen kW1 kW2
  clear iW1 iW2 kW1 kW2 sW1 sW2
  have TE := Lib.hid (edges_any _ l W2 (HV.out.carry hB) hl)
  go_wp2_with fail
  refine TE.out.mono ?_
  rintro e w3 ⟨⟨u, rfl, hu⟩, hb⟩
  replace i1 := i1.carry hb
  have d0 := cellb d0 hb
  replace hB := bthen hB hb
  clear hb TE
  have TI := Lib.hid (IndexFuncE_any 150 #[.pointer (some ⟨w.heap.size, 0, none⟩), .pointer (some ⟨w.heap.size + 1, 0, none⟩)] Tryz.enterOutside1 (fun x => negB (sideE x p den)) u (edgesL l) w3 (by rw [edgesL, upto_length]; omega) hu (fun x _ w1 hb => outside1_any x p den _ _ w1 (i1.carry hb) (cellb d0 hb)))
  clear hu
  go_wp2_with fail
  refine TI.out.mono ?_
  rintro e w4 ⟨rfl, hb⟩
  go_wp2
  go_ret
  exact ⟨ret_int HR.out.symm, bthen hB hb⟩

def insE (l : List (Int × Int)) (p : Int × Int) : Int := firstE [polE l, pointE p]
def bOr (e : Int) (b : Bool) : Bool := bif e == 0 then b else false
def iOr (e : Int) (x : Int) : Int := if e = 0 then x else 0
set_option maxRecDepth 100000 in
set_option maxHeartbeats 1000000 in
theorem Inside_any (v : Value) (l : List (Int × Int)) (p : Int × Int) (w : World) (hv : Pairs w v l) (hl : l.length ≤ 1000000) :
    Calls Tryz.prog 46 #[v, .agg #[.int .i64 p.1, .int .i64 p.2]] w fun e w' => e = .returned (.tuple #[.bool (bOr (insE l p) (negB (outL l p 1))), .int .i64 (insE l p)]) ∧ Below w.heap.size w w' := by
  have HV := Lib.hid hv
  have TP := Lib.hid (fun W h => CheckPolygon_any v l W h hl)
  have TC := Lib.hid (fun W => checkPoint_any p W)
  have TO := Lib.hid (fun W h => outside_any v l p 1 W h hl)
  rw [insE]
  generalize polE l = e1 at TP ⊢
  generalize pointE p = e2 at TC ⊢
  generalize outL l p 1 = o at TO ⊢
  have TF := Lib.hid (fun (u : Value) (W : World) (h : Ints W u [e1, e2]) => firstH_any u [e1, e2] W (by simp [maxLen]) h)
  generalize firstE [e1, e2] = E at TF ⊢
  obtain ⟨a, cp, rfl, _, _⟩ := id hv
  obtain ⟨p0, p1⟩ := p
  simp only at TC TO ⊢
  clear hv
  go_enter Tryz.func46, Tryz.ntmps46
  go_upto_region 1 with fail
  obtain ⟨W1, hW1⟩ : ∃ v, v = World.alloc w (Obj.cells #[.int .i64 p0, .int .i64 p1] 98) := ⟨_, rfl⟩
  have kW1 : Below w.heap.size w W1 := by rw [hW1]; exact below_new _ _
  have iW1 : Blk W1 (w.heap.size) 98 [.int .i64 p0, .int .i64 p1] := by rw [hW1]; exact Blk.new _ _ _
  have sW1 : W1.heap.size = w.heap.size + 1 := by rw [hW1]; simp
  rw [← hW1]
  clear hW1
  have b0 := iW1.cell (j := 0) (v := .int .i64 p0) rfl
  have b1 := iW1.cell (j := 1) (v := .int .i64 p1) rfl
  have hB := kW1
  have hP := HV.out.carry kW1
  clear iW1 kW1 sW1
  refine wp_region_E 6 (by kernel_rfl) ?_
  obtain ⟨wz, hwz⟩ : ∃ v, v = W1.drew := ⟨_, rfl⟩
  rw [← hwz]
  have hlz : Below W1.heap.size W1 wz := by rw [hwz]; exact (Below.refl _ _).drew
  have hbz := bthen hB hlz
  have b0 := cellb b0 hlz
  have b1 := cellb b1 hlz
  have hP := hP.carry hlz
  clear hwz hlz
  refine wpAnyE_take (i := 0) (oi := { dst := some 7, op := Op.move (Operand.tmp 0), type := 48, pos := "filter.go:162", after := #[], guard := none }) (v := ?_) rfl (by kernel_rfl) (by kernel_rfl) (by kernel_rfl) (by kernel_rfl) (fun _ _ _ h => h) (Or.inl ⟨by rfl, ?_⟩) ?_
  rotate_left
  · (intro w hE; have b0 := cellb b0 hE; have b1 := cellb b1 hE; (try dsimp only); go_simp); (try with_reducible rfl)
  try simp only [Act.put, List.setIfInBounds_toArray, List.set_cons_zero, List.set_cons_succ]
  refine wpAnyE_take (i := 2) (oi := { dst := some 9, op := Op.load 98 (Operand.tmp 3), type := 98, pos := "filter.go:162", after := #[], guard := none }) (v := ?_) rfl (by kernel_rfl) (by kernel_rfl) (by kernel_rfl) (by kernel_rfl) (fun _ _ _ h => h) (Or.inl ⟨by rfl, ?_⟩) ?_
  rotate_left
  · (intro w hE; have b0 := cellb b0 hE; have b1 := cellb b1 hE; (try dsimp only); go_simp); (try with_reducible rfl)
  try simp only [Act.put, List.setIfInBounds_toArray, List.set_cons_zero, List.set_cons_succ]
  refine wpAnyE_call (i := 1) (oi := { dst := some 8, op := Op.call { callee := Callee.value (Operand.func 87), args := #[Operand.tmp 7], argTypes := #[48] }, type := 28, pos := "filter.go:162", after := #[{ on := 0, ground := Ground.data }], guard := none }) (fun w hE => TP.out w (hP.carry hE)) rfl (by kernel_rfl) (by kernel_rfl) (by kernel_rfl) (by kernel_rfl) (fun _ _ _ h => h) (by rfl) (fun w hE => by (try dsimp only); go_simp) ?_
  try simp only [Act.put, List.setIfInBounds_toArray, List.set_cons_zero, List.set_cons_succ]
  refine wpAnyE_call (i := 3) (oi := { dst := some 10, op := Op.call { callee := Callee.value (Operand.func 104), args := #[Operand.tmp 9], argTypes := #[98] }, type := 28, pos := "filter.go:162", after := #[{ on := 2, ground := Ground.data }, { on := 1, ground := Ground.chain }], guard := none }) (fun w hE => TC.out w) rfl (by kernel_rfl) (by kernel_rfl) (by kernel_rfl) (by kernel_rfl) (fun _ _ _ h => h) (by rfl) (fun w hE => by (try dsimp only); go_simp) ?_
  try simp only [Act.put, List.setIfInBounds_toArray, List.set_cons_zero, List.set_cons_succ]
  refine wpAnyE_one (i := 4) (o := { dst := some 11, op := Op.buildSlice 175 2 #[(0, Operand.tmp 8), (1, Operand.tmp 10)], type := 175, pos := "filter.go:162", after := #[{ on := 1, ground := Ground.data }, { on := 3, ground := Ground.data }], guard := none }) (by kernel_rfl) rfl (fun wy1 hE K hK => ?_)
  have b0 := cellb b0 hE
  have b1 := cellb b1 hE
  have hP := hP.carry hE
  have hbz1 := bthen hbz hE
  clear hE
  go_simp
  obtain ⟨wx1, hwz⟩ : ∃ v, v = wy1.alloc (Obj.cells #[.int .i64 e1, .int .i64 e2] 28) := ⟨_, rfl⟩
  rw [← hwz]
  have hl : Below wy1.heap.size wy1 wx1 := by rw [hwz]; exact below_new _ _
  have hcz1 := bthen hbz1 hl
  have iN : BlkI wx1 wy1.heap.size 28 [e1, e2] := by rw [hwz]; exact Blk.new _ _ _
  generalize wy1.heap.size = G at iN ⊢
  have b0 := cellb b0 hl
  have b1 := cellb b1 hl
  have hP := hP.carry hl
  clear hwz
  refine hK _ _ (fun _ => hl) ?_
  clear hK K hl
  try simp only [Act.put, List.setIfInBounds_toArray, List.set_cons_zero, List.set_cons_succ]
  refine wpAnyE_call (i := 5) (oi := { dst := some 12, op := Op.call { callee := Callee.value (Operand.func 65), args := #[Operand.tmp 11], argTypes := #[175] }, type := 28, pos := "filter.go:162", after := #[{ on := 4, ground := Ground.data }, { on := 3, ground := Ground.chain }], guard := none }) (fun w hE => ofPure (TF.out _ w ((BlkI.ints iN rfl).carry hE))) rfl (by kernel_rfl) (by kernel_rfl) (by kernel_rfl) (by kernel_rfl) (fun _ _ _ h => h) (by rfl) (fun w hE => by (try dsimp only); go_simp) ?_
  try simp only [Act.put, List.setIfInBounds_toArray, List.set_cons_zero, List.set_cons_succ]
  refine wpAnyE_one (i := 6) (o := { dst := some 6, op := Op.assign (Operand.tmp 12), type := 28, pos := "filter.go:162", after := #[{ on := 5, ground := Ground.data }, { on := 5, ground := Ground.chain }, { on := 0, ground := Ground.phase }, { on := 1, ground := Ground.phase }, { on := 2, ground := Ground.phase }, { on := 3, ground := Ground.phase }, { on := 4, ground := Ground.phase }, { on := 5, ground := Ground.phase }], guard := none }) (by kernel_rfl) rfl (fun wy2 hE K hK => ?_)
  have b0 := cellb b0 hE
  have b1 := cellb b1 hE
  have hP := hP.carry hE
  have hbz2 := bthen hcz1 hE
  go_simp
  refine hK _ _ (fun _ => Below.refl _ _) ?_
  clear hK K hE
  try simp only [Act.put, List.setIfInBounds_toArray, List.set_cons_zero, List.set_cons_succ]
  refine wpAnyE_done (by kernel_rfl) (fun wy3 hE => ?_) _
  have hbz3 := bthen hbz2 hE
  have b0 := cellb b0 hE
  have b1 := cellb b1 hE
  have hP := hP.carry hE
  clear hE
  have hB := hbz3
  obtain ⟨W5, hW5⟩ : ∃ v, v = wy3 := ⟨_, rfl⟩
  rw [← hW5] at hB b0 b1 ⊢
  clear hW5
  by_cases he : E = 0
  · subst he
    go_wp2_with fail
    refine (TO.out W5 (HV.out.carry hB)).mono ?_
    rintro e w6 ⟨rfl, hb⟩
    go_wp2
    go_ret2
    exact ⟨rfl, bthen hB hb⟩
  · have z : (E == 0) = false := by rw [beq_eq_false_iff_ne]; exact he
    have HNE := Lib.hid z
    go_wp2_with fail
    go_ret2
    exact ⟨by rw [bOr, HNE.out]; rfl, hB⟩
end Go.Proofs.YtlohcnecehlljaaGreatDoor

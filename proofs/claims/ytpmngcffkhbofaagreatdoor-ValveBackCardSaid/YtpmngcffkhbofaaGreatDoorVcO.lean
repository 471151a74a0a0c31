/- Package valve: the document's examples, walked. (printed by gen/awakeV.py) -/
import Derived.Test.YtpmngcffkhbofaaGreatDoorVcN
namespace Go.Proofs.YtpmngcffkhbofaaGreatDoor
set_option linter.unusedSimpArgs false
set_option linter.unusedVariables false
open Go.RowKit Flp
def exR (a1 : Option Addr) (n1 c1 : Nat) (a2 : Option Addr) (n2 c2 : Nat) (a3 : Option Addr) (n3 c3 : Nat) : List LgV := [(0, a1, n1, c1), (1, a2, n2, c2), (2, a3, n3, c3)]
theorem exLgs {w : World} {B : Nat} {T : TypeId} {a1 a2 a3 : Option Addr} {n1 c1 n2 c2 n3 c3 : Nat} (h : Blk w B T [.int .i64 0, .slice a1 n1 c1, .int .i64 1, .slice a2 n2 c2, .int .i64 2, .slice a3 n3 c3]) (h1 : Prs w (.slice a1 n1 c1) exA) (h2 : Prs w (.slice a2 n2 c2) exB) (h3 : Prs w (.slice a3 n3 c3) exC) :
 Lgs w (.slice (some ⟨B, 0, none⟩) 3 3) (exR a1 n1 c1 a2 n2 c2 a3 n3 c3) exL :=
 ⟨Rw.of_blk lV_len (l := exR a1 n1 c1 a2 n2 c2 a3 n3 c3) h 3 3 rfl (Nat.le_refl _), rfl, fun k r t hr ht => by
  match k with
  | 0 => simp [exR] at hr; simp [exL] at ht; subst hr; subst ht; exact ⟨rfl, h1⟩
  | 1 => simp [exR] at hr; simp [exL] at ht; subst hr; subst ht; exact ⟨rfl, h2⟩
  | 2 => simp [exR] at hr; simp [exL] at ht; subst hr; subst ht; exact ⟨rfl, h3⟩
  | k + 3 => simp [exR] at hr⟩
theorem exL_len : ∀ t ∈ exL, t.2.length ≤ 1000000 := by decide
theorem exM_sz : ∀ m ∈ exM, m.1.size ≤ 1000000 := by decide
set_option maxRecDepth 100000 in
set_option maxHeartbeats 20000000 in
theorem awake_any (w : World) (hw : Pows w) (hh : Heads w) : Calls Tryz.prog 5 #[] w fun e w' => e = .returned (.bool true) ∧ Below w.heap.size w w' := by
 have hB : Below w.heap.size w w := Below.refl _ _
 go_enter Tryz.func5, Tryz.ntmps5
 go_wp2_with fail
 refine (one_any w).mono ?_
 rintro e W1 ⟨⟨ax, nx, cx, rfl, hx⟩, hl⟩
 replace hB := bthen hB hl
 clear hl
 replace hx : Prs _ _ exA := hx
 go_wp2_with fail
 refine (two_any W1).mono ?_
 rintro e W2 ⟨⟨ay, ny, cy, rfl, hy⟩, hl⟩
 replace hB := bthen hB hl
 replace hx := hx.carry hl
 clear hl
 replace hy : Prs _ _ exB := hy
 go_wp2_with fail
 have TT := Differ_any 0 1 _ _ _ _ _ _ exA exB W2 (by decide) (by decide) hx hy
 rw [ex_dif.1, ex_dif.2.1, ex_dif.2.2] at TT
 refine (TT).mono ?_
 rintro e W3 ⟨rfl, hl⟩
 replace hB := bthen hB hl
 replace hx := hx.carry hl
 replace hy := hy.carry hl
 clear hl
 clear TT
 clear hx
 clear hy
 go_wp2_with fail
 refine (one_any W3).mono ?_
 rintro e W4 ⟨⟨ax, nx, cx, rfl, hx⟩, hl⟩
 replace hB := bthen hB hl
 clear hl
 replace hx : Prs _ _ exA := hx
 go_wp2_with fail
 refine (two_any W4).mono ?_
 rintro e W5 ⟨⟨ay, ny, cy, rfl, hy⟩, hl⟩
 replace hB := bthen hB hl
 replace hx := hx.carry hl
 clear hl
 replace hy : Prs _ _ exB := hy
 go_wp2_with fail
 have TT := ChangeOver_any 0 1 1 2 _ _ _ _ _ _ exA exB W5 (by decide) (by decide) hx hy
 rw [ex_ch2.1, ex_ch2.2] at TT
 refine (TT).mono ?_
 rintro e W6 ⟨rfl, hl⟩
 replace hB := bthen hB hl
 replace hx := hx.carry hl
 replace hy := hy.carry hl
 clear hl
 clear TT
 clear hx
 clear hy
 go_wp2_with fail
 refine (one_any W6).mono ?_
 rintro e W7 ⟨⟨ax, nx, cx, rfl, hx⟩, hl⟩
 replace hB := bthen hB hl
 clear hl
 replace hx : Prs _ _ exA := hx
 go_wp2_with fail
 refine (two_any W7).mono ?_
 rintro e W8 ⟨⟨ay, ny, cy, rfl, hy⟩, hl⟩
 replace hB := bthen hB hl
 replace hx := hx.carry hl
 clear hl
 replace hy : Prs _ _ exB := hy
 go_wp2_with fail
 have TT := ChangeOver_any 0 1 1 3 _ _ _ _ _ _ exA exB W8 (by decide) (by decide) hx hy
 rw [ex_ch3.1, ex_ch3.2] at TT
 refine (TT).mono ?_
 rintro e W9 ⟨rfl, hl⟩
 replace hB := bthen hB hl
 replace hx := hx.carry hl
 replace hy := hy.carry hl
 clear hl
 clear TT
 clear hx
 clear hy
 go_wp2_with fail
 refine (one_any W9).mono ?_
 rintro e W10 ⟨⟨ax, nx, cx, rfl, hx⟩, hl⟩
 replace hB := bthen hB hl
 clear hl
 replace hx : Prs _ _ exA := hx
 go_wp2_with fail
 refine (two_any W10).mono ?_
 rintro e W11 ⟨⟨ay, ny, cy, rfl, hy⟩, hl⟩
 replace hB := bthen hB hl
 replace hx := hx.carry hl
 clear hl
 replace hy : Prs _ _ exB := hy
 go_wp2_with fail
 have TT := Switched_any 0 1 3 _ _ _ _ _ _ exA exB W11 (by decide) (by decide) hx hy
 rw [ex_swt.1, ex_swt.2] at TT
 refine (TT).mono ?_
 rintro e W12 ⟨⟨uc, rfl, rc⟩, hl⟩
 replace hB := bthen hB hl
 replace hx := hx.carry hl
 replace hy := hy.carry hl
 clear hl
 clear TT
 clear hx
 clear hy
 go_wp2_with fail
 obtain ⟨W13, hW13⟩ : ∃ v, v = World.alloc W12 (Obj.cells #[.int .i64 3, .int .i64 3, .int .i64 5, .int .i64 5, .int .i64 4] 3) := ⟨_, rfl⟩
 have kW13 : Below W12.heap.size W12 W13 := by rw [hW13]; exact below_new _ _
 have iW13 : Blk W13 (W12.heap.size) 3 [.int .i64 3, .int .i64 3, .int .i64 5, .int .i64 5, .int .i64 4] := by rw [hW13]; exact Blk.new _ _ _
 have sW13 : W13.heap.size = W12.heap.size + 1 := by rw [hW13]; simp
 rw [← hW13]
 clear hW13
 replace hB := bthen hB kW13
 replace rc := rc.carry kW13
 generalize W12.heap.size = Bv1 at iW13 ⊢
 have v1 := iW13
 clear iW13 kW13 sW13
 replace v1 : Ints _ _ _ := BlkI.ints (n := 5) (l := [3, 3, 5, 5, 4]) v1 rfl
 refine (train_any 1 _ [3, 3, 5, 5, 4] W13 (by decide) (by decide) v1).mono ?_
 rintro e W14 ⟨⟨ut, rfl, ht⟩, hl⟩
 replace hB := bthen hB hl
 replace rc := rc.carry hl
 replace v1 := v1.carry hl
 clear hl
 replace ht : Prs _ _ (trnL 1 [3, 3, 5, 5, 4] 5) := ht.rw pV_len
 rw [ex_trn] at ht
 clear v1
 go_wp2_with fail
 have TT := Bumps_any _ exD 1 W14 (by decide) ht
 rw [ex_bmp.1, ex_bmp.2] at TT
 refine (TT).mono ?_
 rintro e W15 ⟨⟨ud, rfl, rd⟩, hl⟩
 replace hB := bthen hB hl
 replace rc := rc.carry hl
 replace ht := ht.carry hl
 clear hl
 clear TT
 clear ht
 go_wp2_with fail
 refine (one_any W15).mono ?_
 rintro e W16 ⟨⟨ax, nx, cx, rfl, hx⟩, hl⟩
 replace hB := bthen hB hl
 replace rc := rc.carry hl
 replace rd := rd.carry hl
 clear hl
 replace hx : Prs _ _ exA := hx
 go_wp2_with fail
 refine (two_any W16).mono ?_
 rintro e W17 ⟨⟨ay, ny, cy, rfl, hy⟩, hl⟩
 replace hB := bthen hB hl
 replace rc := rc.carry hl
 replace rd := rd.carry hl
 replace hx := hx.carry hl
 clear hl
 replace hy : Prs _ _ exB := hy
 go_wp2_with fail
 refine (three_any W17).mono ?_
 rintro e W18 ⟨⟨az, nz, cz, rfl, hz⟩, hl⟩
 replace hB := bthen hB hl
 replace rc := rc.carry hl
 replace rd := rd.carry hl
 replace hx := hx.carry hl
 replace hy := hy.carry hl
 clear hl
 replace hz : Prs _ _ exC := hz
 go_wp2_with fail
 obtain ⟨W19, hW19⟩ : ∃ v, v = World.alloc W18 (Obj.cells #[.int .i64 0, .slice ax nx cx, .int .i64 1, .slice ay ny cy, .int .i64 2, .slice az nz cz] 32) := ⟨_, rfl⟩
 have kW19 : Below W18.heap.size W18 W19 := by rw [hW19]; exact below_new _ _
 have iW19 : Blk W19 (W18.heap.size) 32 [.int .i64 0, .slice ax nx cx, .int .i64 1, .slice ay ny cy, .int .i64 2, .slice az nz cz] := by rw [hW19]; exact Blk.new _ _ _
 have sW19 : W19.heap.size = W18.heap.size + 1 := by rw [hW19]; simp
 rw [← hW19]
 clear hW19
 replace hB := bthen hB kW19
 replace rc := rc.carry kW19
 replace rd := rd.carry kW19
 replace hx := hx.carry kW19
 replace hy := hy.carry kW19
 replace hz := hz.carry kW19
 generalize W18.heap.size = Blg at iW19 ⊢
 have lg := iW19
 clear iW19 kW19 sW19
 replace lg := exLgs lg hx hy hz
 clear hx
 clear hy
 clear hz
 have TT := Behind_any _ _ exL 0 W19 (by decide) exL_len lg
 rw [ex_beh0.1, ex_beh0.2] at TT
 refine (TT).mono ?_
 rintro e W20 ⟨⟨uf, rfl, rf⟩, hl⟩
 replace hB := bthen hB hl
 replace rc := rc.carry hl
 replace rd := rd.carry hl
 replace lg := lg.carry hl
 clear hl
 clear TT
 clear lg
 go_wp2_with fail
 refine (one_any W20).mono ?_
 rintro e W21 ⟨⟨ax, nx, cx, rfl, hx⟩, hl⟩
 replace hB := bthen hB hl
 replace rc := rc.carry hl
 replace rd := rd.carry hl
 replace rf := rf.carry hl
 clear hl
 replace hx : Prs _ _ exA := hx
 go_wp2_with fail
 refine (two_any W21).mono ?_
 rintro e W22 ⟨⟨ay, ny, cy, rfl, hy⟩, hl⟩
 replace hB := bthen hB hl
 replace rc := rc.carry hl
 replace rd := rd.carry hl
 replace rf := rf.carry hl
 replace hx := hx.carry hl
 clear hl
 replace hy : Prs _ _ exB := hy
 go_wp2_with fail
 refine (three_any W22).mono ?_
 rintro e W23 ⟨⟨az, nz, cz, rfl, hz⟩, hl⟩
 replace hB := bthen hB hl
 replace rc := rc.carry hl
 replace rd := rd.carry hl
 replace rf := rf.carry hl
 replace hx := hx.carry hl
 replace hy := hy.carry hl
 clear hl
 replace hz : Prs _ _ exC := hz
 go_wp2_with fail
 obtain ⟨W24, hW24⟩ : ∃ v, v = World.alloc W23 (Obj.cells #[.int .i64 0, .slice ax nx cx, .int .i64 1, .slice ay ny cy, .int .i64 2, .slice az nz cz] 32) := ⟨_, rfl⟩
 have kW24 : Below W23.heap.size W23 W24 := by rw [hW24]; exact below_new _ _
 have iW24 : Blk W24 (W23.heap.size) 32 [.int .i64 0, .slice ax nx cx, .int .i64 1, .slice ay ny cy, .int .i64 2, .slice az nz cz] := by rw [hW24]; exact Blk.new _ _ _
 have sW24 : W24.heap.size = W23.heap.size + 1 := by rw [hW24]; simp
 rw [← hW24]
 clear hW24
 replace hB := bthen hB kW24
 replace rc := rc.carry kW24
 replace rd := rd.carry kW24
 replace rf := rf.carry kW24
 replace hx := hx.carry kW24
 replace hy := hy.carry kW24
 replace hz := hz.carry kW24
 generalize W23.heap.size = Blg at iW24 ⊢
 have lg := iW24
 clear iW24 kW24 sW24
 replace lg := exLgs lg hx hy hz
 clear hx
 clear hy
 clear hz
 have TT := Behind_any _ _ exL 1 W24 (by decide) exL_len lg
 rw [ex_beh1.1, ex_beh1.2] at TT
 refine (TT).mono ?_
 rintro e W25 ⟨⟨ug, rfl, rg⟩, hl⟩
 replace hB := bthen hB hl
 replace rc := rc.carry hl
 replace rd := rd.carry hl
 replace rf := rf.carry hl
 replace lg := lg.carry hl
 clear hl
 clear TT
 clear lg
 go_wp2_with fail
 refine (one_any W25).mono ?_
 rintro e W26 ⟨⟨ax, nx, cx, rfl, hx⟩, hl⟩
 replace hB := bthen hB hl
 replace rc := rc.carry hl
 replace rd := rd.carry hl
 replace rf := rf.carry hl
 replace rg := rg.carry hl
 clear hl
 replace hx : Prs _ _ exA := hx
 go_wp2_with fail
 refine (two_any W26).mono ?_
 rintro e W27 ⟨⟨ay, ny, cy, rfl, hy⟩, hl⟩
 replace hB := bthen hB hl
 replace rc := rc.carry hl
 replace rd := rd.carry hl
 replace rf := rf.carry hl
 replace rg := rg.carry hl
 replace hx := hx.carry hl
 clear hl
 replace hy : Prs _ _ exB := hy
 go_wp2_with fail
 refine (three_any W27).mono ?_
 rintro e W28 ⟨⟨az, nz, cz, rfl, hz⟩, hl⟩
 replace hB := bthen hB hl
 replace rc := rc.carry hl
 replace rd := rd.carry hl
 replace rf := rf.carry hl
 replace rg := rg.carry hl
 replace hx := hx.carry hl
 replace hy := hy.carry hl
 clear hl
 replace hz : Prs _ _ exC := hz
 go_wp2_with fail
 obtain ⟨W29, hW29⟩ : ∃ v, v = World.alloc W28 (Obj.cells #[.int .i64 0, .slice ax nx cx, .int .i64 1, .slice ay ny cy, .int .i64 2, .slice az nz cz] 32) := ⟨_, rfl⟩
 have kW29 : Below W28.heap.size W28 W29 := by rw [hW29]; exact below_new _ _
 have iW29 : Blk W29 (W28.heap.size) 32 [.int .i64 0, .slice ax nx cx, .int .i64 1, .slice ay ny cy, .int .i64 2, .slice az nz cz] := by rw [hW29]; exact Blk.new _ _ _
 have sW29 : W29.heap.size = W28.heap.size + 1 := by rw [hW29]; simp
 rw [← hW29]
 clear hW29
 replace hB := bthen hB kW29
 replace rc := rc.carry kW29
 replace rd := rd.carry kW29
 replace rf := rf.carry kW29
 replace rg := rg.carry kW29
 replace hx := hx.carry kW29
 replace hy := hy.carry kW29
 replace hz := hz.carry kW29
 generalize W28.heap.size = Blg at iW29 ⊢
 have lg := iW29
 clear iW29 kW29 sW29
 replace lg := exLgs lg hx hy hz
 clear hx
 clear hy
 clear hz
 have TT := Vote_any _ _ exL W29 (by decide) exL_len lg
 rw [ex_vot.1, ex_vot.2] at TT
 refine (TT).mono ?_
 rintro e W30 ⟨⟨uh, rfl, rh⟩, hl⟩
 replace hB := bthen hB hl
 replace rc := rc.carry hl
 replace rd := rd.carry hl
 replace rf := rf.carry hl
 replace rg := rg.carry hl
 replace lg := lg.carry hl
 clear hl
 clear TT
 clear lg
 obtain ⟨ag, cg, rfl, _, _⟩ := id rg
 clear rg
 go_wp2_with fail
 refine (told_any _ exD W30 (by decide) rc).mono ?_
 rintro e W31 ⟨⟨uc, rfl, hc⟩, hl⟩
 replace hB := bthen hB hl
 replace rc := rc.carry hl
 replace rd := rd.carry hl
 replace rf := rf.carry hl
 replace rh := rh.carry hl
 clear hl
 replace hc : Prs _ _ _ := hc.rw pV_len
 clear rc
 go_wp2_with fail
 obtain ⟨W32, hW32⟩ : ∃ v, v = World.alloc W31 (Obj.cells #[.int .i64 3, .int .i64 3, .int .i64 5, .int .i64 5, .int .i64 4] 3) := ⟨_, rfl⟩
 have kW32 : Below W31.heap.size W31 W32 := by rw [hW32]; exact below_new _ _
 have iW32 : Blk W32 (W31.heap.size) 3 [.int .i64 3, .int .i64 3, .int .i64 5, .int .i64 5, .int .i64 4] := by rw [hW32]; exact Blk.new _ _ _
 have sW32 : W32.heap.size = W31.heap.size + 1 := by rw [hW32]; simp
 rw [← hW32]
 clear hW32
 replace hB := bthen hB kW32
 replace rd := rd.carry kW32
 replace rf := rf.carry kW32
 replace rh := rh.carry kW32
 replace hc := hc.carry kW32
 generalize W31.heap.size = Bv1 at iW32 ⊢
 have v1 := iW32
 clear iW32 kW32 sW32
 replace v1 : Ints _ _ _ := BlkI.ints (n := 5) (l := [3, 3, 5, 5, 4]) v1 rfl
 refine (train_any 1 _ [3, 3, 5, 5, 4] W32 (by decide) (by decide) v1).mono ?_
 rintro e W33 ⟨⟨ut, rfl, ht⟩, hl⟩
 replace hB := bthen hB hl
 replace rd := rd.carry hl
 replace rf := rf.carry hl
 replace rh := rh.carry hl
 replace hc := hc.carry hl
 replace v1 := v1.carry hl
 clear hl
 replace ht : Prs _ _ (trnL 1 [3, 3, 5, 5, 4] 5) := ht.rw pV_len
 rw [ex_trn] at ht
 clear v1
 go_wp2_with fail
 refine (told_any _ exD W33 (by decide) ht).mono ?_
 rintro e W34 ⟨⟨ut2, rfl, ht2⟩, hl⟩
 replace hB := bthen hB hl
 replace rd := rd.carry hl
 replace rf := rf.carry hl
 replace rh := rh.carry hl
 replace hc := hc.carry hl
 replace ht := ht.carry hl
 clear hl
 replace ht2 : Prs _ _ _ := ht2.rw pV_len
 clear ht
 go_wp2_with fail
 refine ((SameTrain_any _ _ exD exD W34 hc ht2 (by decide)).mono (fun _ _ h => (⟨h.1.trans (by rw [decide_eq_true rfl]), h.2⟩ : _ = Ending.returned (.bool true) ∧ _))).mono ?_
 rintro e W35 ⟨rfl, hl⟩
 replace hB := bthen hB hl
 replace rd := rd.carry hl
 replace rf := rf.carry hl
 replace rh := rh.carry hl
 replace hc := hc.carry hl
 replace ht2 := ht2.carry hl
 clear hl
 clear hc
 clear ht2
 go_wp2_with fail
 obtain ⟨W36, hW36⟩ : ∃ v, v = World.alloc W35 (Obj.cells #[.int .i64 3] 3) := ⟨_, rfl⟩
 have kW36 : Below W35.heap.size W35 W36 := by rw [hW36]; exact below_new _ _
 have iW36 : Blk W36 (W35.heap.size) 3 [.int .i64 3] := by rw [hW36]; exact Blk.new _ _ _
 have sW36 : W36.heap.size = W35.heap.size + 1 := by rw [hW36]; simp
 rw [← hW36]
 clear hW36
 replace hB := bthen hB kW36
 replace rd := rd.carry kW36
 replace rf := rf.carry kW36
 replace rh := rh.carry kW36
 generalize W35.heap.size = Bv1 at iW36 ⊢
 have v1 := iW36
 clear iW36 kW36 sW36
 replace v1 : Ints _ _ _ := BlkI.ints (n := 1) (l := [3]) v1 rfl
 refine ((SameInts_any _ _ [3] [3] W36 rd v1 (by decide)).mono (fun _ _ h => (⟨h.1.trans (by rw [decide_eq_true rfl]), h.2⟩ : _ = Ending.returned (.bool true) ∧ _))).mono ?_
 rintro e W37 ⟨rfl, hl⟩
 replace hB := bthen hB hl
 replace rd := rd.carry hl
 replace rf := rf.carry hl
 replace rh := rh.carry hl
 replace v1 := v1.carry hl
 clear hl
 clear rd
 clear v1
 go_wp2_with fail
 obtain ⟨W38, hW38⟩ : ∃ v, v = World.alloc W37 (Obj.cells #[.int .i64 0, .int .i64 2] 3) := ⟨_, rfl⟩
 have kW38 : Below W37.heap.size W37 W38 := by rw [hW38]; exact below_new _ _
 have iW38 : Blk W38 (W37.heap.size) 3 [.int .i64 0, .int .i64 2] := by rw [hW38]; exact Blk.new _ _ _
 have sW38 : W38.heap.size = W37.heap.size + 1 := by rw [hW38]; simp
 rw [← hW38]
 clear hW38
 replace hB := bthen hB kW38
 replace rf := rf.carry kW38
 replace rh := rh.carry kW38
 generalize W37.heap.size = Bv1 at iW38 ⊢
 have v1 := iW38
 clear iW38 kW38 sW38
 replace v1 : Ints _ _ _ := BlkI.ints (n := 2) (l := [0, 2]) v1 rfl
 refine ((SameInts_any _ _ [0, 2] [0, 2] W38 rf v1 (by decide)).mono (fun _ _ h => (⟨h.1.trans (by rw [decide_eq_true rfl]), h.2⟩ : _ = Ending.returned (.bool true) ∧ _))).mono ?_
 rintro e W39 ⟨rfl, hl⟩
 replace hB := bthen hB hl
 replace rf := rf.carry hl
 replace rh := rh.carry hl
 replace v1 := v1.carry hl
 clear hl
 clear rf
 clear v1
 go_wp2_with fail
 refine (told_any _ exV W39 (by decide) rh).mono ?_
 rintro e W40 ⟨⟨uc, rfl, hc⟩, hl⟩
 replace hB := bthen hB hl
 replace rh := rh.carry hl
 clear hl
 replace hc : Prs _ _ _ := hc.rw pV_len
 clear rh
 go_wp2_with fail
 obtain ⟨W41, hW41⟩ : ∃ v, v = World.alloc W40 (Obj.cells #[.int .i64 3, .int .i64 1, .int .i64 5, .int .i64 5] 3) := ⟨_, rfl⟩
 have kW41 : Below W40.heap.size W40 W41 := by rw [hW41]; exact below_new _ _
 have iW41 : Blk W41 (W40.heap.size) 3 [.int .i64 3, .int .i64 1, .int .i64 5, .int .i64 5] := by rw [hW41]; exact Blk.new _ _ _
 have sW41 : W41.heap.size = W40.heap.size + 1 := by rw [hW41]; simp
 rw [← hW41]
 clear hW41
 replace hB := bthen hB kW41
 replace hc := hc.carry kW41
 generalize W40.heap.size = Bv1 at iW41 ⊢
 have v1 := iW41
 clear iW41 kW41 sW41
 replace v1 : Ints _ _ _ := BlkI.ints (n := 4) (l := [3, 1, 5, 5]) v1 rfl
 refine (train_any 1 _ [3, 1, 5, 5] W41 (by decide) (by decide) v1).mono ?_
 rintro e W42 ⟨⟨ut, rfl, ht⟩, hl⟩
 replace hB := bthen hB hl
 replace hc := hc.carry hl
 replace v1 := v1.carry hl
 clear hl
 replace ht : Prs _ _ (trnL 1 [3, 1, 5, 5] 4) := ht.rw pV_len
 rw [ex_tr1] at ht
 clear v1
 go_wp2_with fail
 refine (told_any _ exV W42 (by decide) ht).mono ?_
 rintro e W43 ⟨⟨ut2, rfl, ht2⟩, hl⟩
 replace hB := bthen hB hl
 replace hc := hc.carry hl
 replace ht := ht.carry hl
 clear hl
 replace ht2 : Prs _ _ _ := ht2.rw pV_len
 clear ht
 go_wp2_with fail
 refine ((SameTrain_any _ _ exV exV W43 hc ht2 (by decide)).mono (fun _ _ h => (⟨h.1.trans (by rw [decide_eq_true rfl]), h.2⟩ : _ = Ending.returned (.bool true) ∧ _))).mono ?_
 rintro e W44 ⟨rfl, hl⟩
 replace hB := bthen hB hl
 replace hc := hc.carry hl
 replace ht2 := ht2.carry hl
 clear hl
 clear hc
 clear ht2
 go_wp2_with fail
 refine (one_any W44).mono ?_
 rintro e W45 ⟨⟨ax, nx, cx, rfl, hx⟩, hl⟩
 replace hB := bthen hB hl
 clear hl
 replace hx : Prs _ _ exA := hx
 go_wp2_with fail
 have TT := Telegrams_any 0 _ _ _ exA W45 (by decide) hx
 rw [ex_tel.1, ex_tel.2] at TT
 refine (TT).mono ?_
 rintro e W46 ⟨⟨ui, rfl, ri⟩, hl⟩
 replace hB := bthen hB hl
 replace hx := hx.carry hl
 clear hl
 clear TT
 clear hx
 go_wp2_with fail
 obtain ⟨W47, hW47⟩ : ∃ v, v = World.alloc W46 (Obj.cells #[.int .i64 0, .int .i64 65535, .int .i64 0, .int .i64 0, .int .i64 0, .int .i64 0, .int .i64 3, .int .i64 0, .int .i64 9, .int .i64 9, .int .i64 0, .int .i64 0, .int .i64 0, .int .i64 1, .int .i64 0, .int .i64 0, .int .i64 0, .int .i64 0] 53) := ⟨_, rfl⟩
 have kW47 : Below W46.heap.size W46 W47 := by rw [hW47]; exact below_new _ _
 have iW47 : Blk W47 (W46.heap.size) 53 [.int .i64 0, .int .i64 65535, .int .i64 0, .int .i64 0, .int .i64 0, .int .i64 0, .int .i64 3, .int .i64 0, .int .i64 9, .int .i64 9, .int .i64 0, .int .i64 0, .int .i64 0, .int .i64 1, .int .i64 0, .int .i64 0, .int .i64 0, .int .i64 0] := by rw [hW47]; exact Blk.new _ _ _
 have sW47 : W47.heap.size = W46.heap.size + 1 := by rw [hW47]; simp
 rw [← hW47]
 clear hW47
 replace hB := bthen hB kW47
 replace ri := ri.carry kW47
 generalize W46.heap.size = Btg at iW47 ⊢
 have tg := iW47
 clear iW47 kW47 sW47
 replace tg : Rw 6 tV _ _ exT := Rw.of_blk tV_len (l := exT) tg 3 3 rfl (Nat.le_refl _)
 have hw' := hw.carry hB
 have TT := Received_any _ 0 0 exT W47 (by decide) tg hw'
 rw [ex_rc.1, ex_rc.2] at TT
 refine (TT).mono ?_
 rintro e W48 ⟨⟨aj, nj, cj, rfl, rj⟩, hl⟩
 replace hB := bthen hB hl
 replace ri := ri.carry hl
 replace tg := tg.carry hl
 clear hl
 clear TT
 clear tg
 clear hw'
 dsimp only at rj ⊢
 go_upto_region 13 with fail
 obtain ⟨W49, hW49⟩ : ∃ v, v = World.alloc W48 (Obj.cells #[.int .i64 0, .slice aj nj cj] 32) := ⟨_, rfl⟩
 have kW49 : Below W48.heap.size W48 W49 := by rw [hW49]; exact below_new _ _
 have iW49 : Blk W49 (W48.heap.size) 32 [.int .i64 0, .slice aj nj cj] := by rw [hW49]; exact Blk.new _ _ _
 have sW49 : W49.heap.size = W48.heap.size + 1 := by rw [hW49]; simp
 rw [← hW49]
 clear hW49
 replace hB := bthen hB kW49
 replace ri := ri.carry kW49
 replace rj := rj.carry kW49
 generalize W48.heap.size = Bbj at iW49 ⊢
 have bj := iW49
 clear iW49 kW49 sW49
 go_wp2_with fail
 obtain ⟨W50, hW50⟩ : ∃ v, v = World.alloc W49 (Obj.cells #[.int .i64 0, .int .i64 1, .int .i64 1, .int .i64 5, .int .i64 0, .int .i64 4, .int .i64 3, .int .i64 5, .int .i64 4, .int .i64 5, .int .i64 5, .int .i64 5, .int .i64 6, .int .i64 5, .int .i64 7, .int .i64 5, .int .i64 8, .int .i64 5, .int .i64 9, .int .i64 5, .int .i64 10, .int .i64 5, .int .i64 11, .int .i64 5] 73) := ⟨_, rfl⟩
 have kW50 : Below W49.heap.size W49 W50 := by rw [hW50]; exact below_new _ _
 have iW50 : Blk W50 (W49.heap.size) 73 [.int .i64 0, .int .i64 1, .int .i64 1, .int .i64 5, .int .i64 0, .int .i64 4, .int .i64 3, .int .i64 5, .int .i64 4, .int .i64 5, .int .i64 5, .int .i64 5, .int .i64 6, .int .i64 5, .int .i64 7, .int .i64 5, .int .i64 8, .int .i64 5, .int .i64 9, .int .i64 5, .int .i64 10, .int .i64 5, .int .i64 11, .int .i64 5] := by rw [hW50]; exact Blk.new _ _ _
 have sW50 : W50.heap.size = W49.heap.size + 1 := by rw [hW50]; simp
 rw [← hW50]
 clear hW50
 replace hB := bthen hB kW50
 replace ri := ri.carry kW50
 replace rj := rj.carry kW50
 replace bj := bj.carry kW50
 generalize W49.heap.size = Bak at iW50 ⊢
 have ak := iW50
 clear iW50 kW50 sW50
 replace ak : Prs _ _ exK := Rw.of_blk pV_len (l := exK) ak 12 12 rfl (Nat.le_refl _)
 have TT := Missing_any _ exK 8 3 W50 (by decide) ak
 rw [ex_mis.1, ex_mis.2] at TT
 refine (TT).mono ?_
 rintro e W51 ⟨⟨uk, rfl, rk⟩, hl⟩
 replace hB := bthen hB hl
 replace ri := ri.carry hl
 replace rj := rj.carry hl
 replace bj := bj.carry hl
 replace ak := ak.carry hl
 clear hl
 clear TT
 clear ak
 go_wp2_with fail
 refine (one_any W51).mono ?_
 rintro e W52 ⟨⟨ax, nx, cx, rfl, hx⟩, hl⟩
 replace hB := bthen hB hl
 replace ri := ri.carry hl
 replace rj := rj.carry hl
 replace bj := bj.carry hl
 replace rk := rk.carry hl
 clear hl
 replace hx : Prs _ _ exA := hx
 have fl := fun W => ex_fld 0 ax nx cx W
 go_wp2_with fail
 clear fl
 have TT := Switchings_any _ exA W52 (by decide) hx
 rw [ex_sw.1, ex_sw.2] at TT
 refine (TT).mono ?_
 rintro e W53 ⟨rfl, hl⟩
 replace hB := bthen hB hl
 replace ri := ri.carry hl
 replace rj := rj.carry hl
 replace bj := bj.carry hl
 replace rk := rk.carry hl
 replace hx := hx.carry hl
 clear hl
 clear TT
 clear hx
 go_upto_region 15 with (refine wpList_storeA rfl _ _ _ rfl W53.heap.size [0, 1, 1, 0, 0, 0, 0, 0, 0, 0, 0, 0] (List.replicate 12 0) rfl rfl (BlkI.new W53 75 (List.replicate 12 0)) rfl Tryz.infoA12 ?_)
 obtain ⟨W54, hW54⟩ : ∃ v, v = World.setRow (World.alloc W53 (Obj.cells #[.int .i64 0, .int .i64 0, .int .i64 0, .int .i64 0, .int .i64 0, .int .i64 0, .int .i64 0, .int .i64 0, .int .i64 0, .int .i64 0, .int .i64 0, .int .i64 0] 75)) W53.heap.size (ia ([0, 1, 1, 0, 0, 0, 0, 0, 0, 0, 0, 0])) := ⟨_, rfl⟩
 have kW54 : Below W53.heap.size W53 W54 := by rw [hW54]; exact zrow_below _ _ _ _
 have iW54 : BlkI W54 W53.heap.size 75 ([0, 1, 1, 0, 0, 0, 0, 0, 0, 0, 0, 0]) := by rw [hW54]; exact zrow_blk W53 _ (List.replicate 12 0) _
 rw [← hW54]
 clear hW54
 replace hB := bthen hB kW54
 replace ri := ri.carry kW54
 replace rj := rj.carry kW54
 replace bj := bj.carry kW54
 replace rk := rk.carry kW54
 generalize W53.heap.size = Bsl at iW54 ⊢
 have sl := iW54
 clear iW54 kW54
 go_wp2_with fail
 refine (one_any W54).mono ?_
 rintro e W55 ⟨⟨ax, nx, cx, rfl, hx⟩, hl⟩
 replace hB := bthen hB hl
 replace ri := ri.carry hl
 replace rj := rj.carry hl
 replace bj := bj.carry hl
 replace rk := rk.carry hl
 replace sl := sl.carry hl
 clear hl
 replace hx : Prs _ _ exA := hx
 have fl := fun W => ex_fld 0 ax nx cx W
 go_wp2_with fail
 clear fl
 have TT := Wear_any _ exA [8, 8, 8, 0, 0, 0, 0, 0, 0, 0, 0, 0] W55 (by decide) rfl hx
 rw [ex_wear.1, ex_wear.2] at TT
 refine (TT).mono ?_
 rintro e W56 ⟨rfl, hl⟩
 replace hB := bthen hB hl
 replace ri := ri.carry hl
 replace rj := rj.carry hl
 replace bj := bj.carry hl
 replace rk := rk.carry hl
 replace sl := sl.carry hl
 replace hx := hx.carry hl
 clear hl
 clear TT
 clear hx
 go_upto_region 16 with (refine wpList_storeF rfl _ _ _ rfl W56.heap.size [0, 1056964608, 1056964608, 0, 0, 0, 0, 0, 0, 0, 0, 0] zerF rfl rfl (Blk.new W56 79 (zerF.map (Value.float .f32))) rfl Tryz.infoF12 ?_)
 obtain ⟨W57, hW57⟩ : ∃ v, v = World.setRow (World.alloc W56 (Obj.cells #[Value.float FloatKind.f32 0, Value.float FloatKind.f32 0, Value.float FloatKind.f32 0, Value.float FloatKind.f32 0, Value.float FloatKind.f32 0, Value.float FloatKind.f32 0, Value.float FloatKind.f32 0, Value.float FloatKind.f32 0, Value.float FloatKind.f32 0, Value.float FloatKind.f32 0, Value.float FloatKind.f32 0, Value.float FloatKind.f32 0] 79)) W56.heap.size (fa [0, 1056964608, 1056964608, 0, 0, 0, 0, 0, 0, 0, 0, 0]) := ⟨_, rfl⟩
 have kW57 : Below W56.heap.size W56 W57 := by rw [hW57]; exact zrow_below _ _ _ _
 have iW57 : BlkF W57 W56.heap.size 79 [0, 1056964608, 1056964608, 0, 0, 0, 0, 0, 0, 0, 0, 0] := by rw [hW57]; exact BlkF.setRowA (Blk.new W56 79 (zerF.map (Value.float .f32))) [0, 1056964608, 1056964608, 0, 0, 0, 0, 0, 0, 0, 0, 0]
 rw [← hW57]
 clear hW57
 replace hB := bthen hB kW57
 replace ri := ri.carry kW57
 replace rj := rj.carry kW57
 replace bj := bj.carry kW57
 replace rk := rk.carry kW57
 replace sl := sl.carry kW57
 generalize W56.heap.size = Bsm at iW57 ⊢
 have sm := iW57
 clear iW57 kW57
 go_wp2_with fail
 have TT := Worn_any [0, 1056964608, 1056964608, 0, 0, 0, 0, 0, 0, 0, 0, 0] 1048576000 W57 rfl
 rw [ex_worn.1, ex_worn.2] at TT
 refine (TT).mono ?_
 rintro e W58 ⟨⟨un, rfl, rn⟩, hl⟩
 replace hB := bthen hB hl
 replace ri := ri.carry hl
 replace rj := rj.carry hl
 replace bj := bj.carry hl
 replace rk := rk.carry hl
 replace sl := sl.carry hl
 replace sm := sm.carry hl
 clear hl
 clear TT
 go_wp2_with fail
 refine (one_any W58).mono ?_
 rintro e W59 ⟨⟨ax, nx, cx, rfl, hx⟩, hl⟩
 replace hB := bthen hB hl
 replace ri := ri.carry hl
 replace rj := rj.carry hl
 replace bj := bj.carry hl
 replace rk := rk.carry hl
 replace sl := sl.carry hl
 replace sm := sm.carry hl
 replace rn := rn.carry hl
 clear hl
 replace hx : Prs _ _ exA := hx
 have fl := fun W => ex_fld 0 ax nx cx W
 go_wp2_with fail
 clear fl
 have TT := Bypassed_any _ exA 1 W59 (by decide) hx
 rw [ex_byp.1, ex_byp.2] at TT
 refine (TT).mono ?_
 rintro e W60 ⟨⟨uo, rfl, ro⟩, hl⟩
 replace hB := bthen hB hl
 replace ri := ri.carry hl
 replace rj := rj.carry hl
 replace bj := bj.carry hl
 replace rk := rk.carry hl
 replace sl := sl.carry hl
 replace sm := sm.carry hl
 replace rn := rn.carry hl
 replace hx := hx.carry hl
 clear hl
 clear TT
 clear hx
 go_wp2_with fail
 refine (one_any W60).mono ?_
 rintro e W61 ⟨⟨ax, nx, cx, rfl, hx⟩, hl⟩
 replace hB := bthen hB hl
 replace ri := ri.carry hl
 replace rj := rj.carry hl
 replace bj := bj.carry hl
 replace rk := rk.carry hl
 replace sl := sl.carry hl
 replace sm := sm.carry hl
 replace rn := rn.carry hl
 replace ro := ro.carry hl
 clear hl
 replace hx : Prs _ _ exA := hx
 have fl := fun W => ex_fld 0 ax nx cx W
 go_wp2_with fail
 clear fl
 have TT := Substituted_any _ exA 2 3 W61 (by decide) hx
 rw [ex_sub.1, ex_sub.2] at TT
 refine (TT).mono ?_
 rintro e W62 ⟨⟨up, rfl, rp⟩, hl⟩
 replace hB := bthen hB hl
 replace ri := ri.carry hl
 replace rj := rj.carry hl
 replace bj := bj.carry hl
 replace rk := rk.carry hl
 replace sl := sl.carry hl
 replace sm := sm.carry hl
 replace rn := rn.carry hl
 replace ro := ro.carry hl
 replace hx := hx.carry hl
 clear hl
 clear TT
 clear hx
 obtain ⟨bi, oi, ci, rfl, hci⟩ := ri.head (by decide)
 clear ri
 have xi0 : W62.cell? ⟨bi, oi + 12, none⟩ = some (.int .i64 0) := hci 2 _ rfl 0 _ rfl
 have xi1 : W62.cell? ⟨bi, oi + 12 + 1, none⟩ = some (.int .i64 3) := hci 2 _ rfl 1 _ rfl
 have xi2 : W62.cell? ⟨bi, oi + 12 + 2, none⟩ = some (.int .i64 5) := hci 2 _ rfl 2 _ rfl
 have xi3 : W62.cell? ⟨bi, oi + 12 + 3, none⟩ = some (.int .i64 0) := hci 2 _ rfl 3 _ rfl
 have xi4 : W62.cell? ⟨bi, oi + 12 + 4, none⟩ = some (.int .i64 0) := hci 2 _ rfl 4 _ rfl
 have xi5 : W62.cell? ⟨bi, oi + 12 + 5, none⟩ = some (.int .i64 0) := hci 2 _ rfl 5 _ rfl
 clear hci
 have nqT := ex_neqT
 have x20 := bj.cell (j := 0) (v := .int .i64 0) rfl
 have x21 := bj.cell (j := 1) (v := .slice aj nj cj) rfl
 go_wp2_with fail
 clear nqT x20 x21 xi0 xi1 xi2 xi3 xi4 xi5
 clear bj
 refine (told_any _ [(65535, 0), (65537, 0)] W62 (by decide) rj).mono ?_
 rintro e W63 ⟨⟨uc, rfl, hc⟩, hl⟩
 replace hB := bthen hB hl
 replace rj := rj.carry hl
 replace rk := rk.carry hl
 replace sl := sl.carry hl
 replace sm := sm.carry hl
 replace rn := rn.carry hl
 replace ro := ro.carry hl
 replace rp := rp.carry hl
 clear hl
 replace hc : Prs _ _ _ := hc.rw pV_len
 clear rj
 go_wp2_with fail
 obtain ⟨W64, hW64⟩ : ∃ v, v = World.alloc W63 (Obj.cells #[.int .i64 65535, .int .i64 0, .int .i64 65537, .int .i64 0] 47) := ⟨_, rfl⟩
 have kW64 : Below W63.heap.size W63 W64 := by rw [hW64]; exact below_new _ _
 have iW64 : Blk W64 (W63.heap.size) 47 [.int .i64 65535, .int .i64 0, .int .i64 65537, .int .i64 0] := by rw [hW64]; exact Blk.new _ _ _
 have sW64 : W64.heap.size = W63.heap.size + 1 := by rw [hW64]; simp
 rw [← hW64]
 clear hW64
 replace hB := bthen hB kW64
 replace rk := rk.carry kW64
 replace sl := sl.carry kW64
 replace sm := sm.carry kW64
 replace rn := rn.carry kW64
 replace ro := ro.carry kW64
 replace rp := rp.carry kW64
 replace hc := hc.carry kW64
 generalize W63.heap.size = Bpl at iW64 ⊢
 have pl := iW64
 clear iW64 kW64 sW64
 replace pl : Prs _ _ [(65535, 0), (65537, 0)] := Rw.of_blk pV_len (l := [(65535, 0), (65537, 0)]) pl 2 2 rfl (Nat.le_refl _)
 refine ((SameTrain_any _ _ [(65535, 0), (65537, 0)] [(65535, 0), (65537, 0)] W64 hc pl (by decide)).mono (fun _ _ h => (⟨h.1.trans (by rw [decide_eq_true rfl]), h.2⟩ : _ = Ending.returned (.bool true) ∧ _))).mono ?_
 rintro e W65 ⟨rfl, hl⟩
 replace hB := bthen hB hl
 replace rk := rk.carry hl
 replace sl := sl.carry hl
 replace sm := sm.carry hl
 replace rn := rn.carry hl
 replace ro := ro.carry hl
 replace rp := rp.carry hl
 replace hc := hc.carry hl
 replace pl := pl.carry hl
 clear hl
 clear hc
 clear pl
 go_wp2_with fail
 obtain ⟨W66, hW66⟩ : ∃ v, v = World.alloc W65 (Obj.cells #[.int .i64 0, .int .i64 2] 3) := ⟨_, rfl⟩
 have kW66 : Below W65.heap.size W65 W66 := by rw [hW66]; exact below_new _ _
 have iW66 : Blk W66 (W65.heap.size) 3 [.int .i64 0, .int .i64 2] := by rw [hW66]; exact Blk.new _ _ _
 have sW66 : W66.heap.size = W65.heap.size + 1 := by rw [hW66]; simp
 rw [← hW66]
 clear hW66
 replace hB := bthen hB kW66
 replace rk := rk.carry kW66
 replace sl := sl.carry kW66
 replace sm := sm.carry kW66
 replace rn := rn.carry kW66
 replace ro := ro.carry kW66
 replace rp := rp.carry kW66
 generalize W65.heap.size = Bv1 at iW66 ⊢
 have v1 := iW66
 clear iW66 kW66 sW66
 replace v1 : Ints _ _ _ := BlkI.ints (n := 2) (l := [0, 2]) v1 rfl
 refine ((SameInts_any _ _ [0, 2] [0, 2] W66 rk v1 (by decide)).mono (fun _ _ h => (⟨h.1.trans (by rw [decide_eq_true rfl]), h.2⟩ : _ = Ending.returned (.bool true) ∧ _))).mono ?_
 rintro e W67 ⟨rfl, hl⟩
 replace hB := bthen hB hl
 replace rk := rk.carry hl
 replace sl := sl.carry hl
 replace sm := sm.carry hl
 replace rn := rn.carry hl
 replace ro := ro.carry hl
 replace rp := rp.carry hl
 replace v1 := v1.carry hl
 clear hl
 clear rk
 clear v1
 have lI := load12 (l := [0, 1, 1, 0, 0, 0, 0, 0, 0, 0, 0, 0]) rfl sl
 have lF := loadF12 (l := [0, 1056964608, 1056964608, 0, 0, 0, 0, 0, 0, 0, 0, 0]) rfl sm
 have nqI := ex_eqI
 have nqF := ex_eqF
 go_wp2_with (first | refine wpList_loadG (by rfl) _ _ rfl lI ?_ | refine wpList_loadG (by rfl) _ _ rfl lF ?_)
 clear lI lF nqI nqF
 clear sl
 clear sm
 obtain ⟨W68, hW68⟩ : ∃ v, v = World.alloc W67 (Obj.cells #[.int .i64 1, .int .i64 2] 3) := ⟨_, rfl⟩
 have kW68 : Below W67.heap.size W67 W68 := by rw [hW68]; exact below_new _ _
 have iW68 : Blk W68 (W67.heap.size) 3 [.int .i64 1, .int .i64 2] := by rw [hW68]; exact Blk.new _ _ _
 have sW68 : W68.heap.size = W67.heap.size + 1 := by rw [hW68]; simp
 rw [← hW68]
 clear hW68
 replace hB := bthen hB kW68
 replace rn := rn.carry kW68
 replace ro := ro.carry kW68
 replace rp := rp.carry kW68
 generalize W67.heap.size = Bv1 at iW68 ⊢
 have v1 := iW68
 clear iW68 kW68 sW68
 replace v1 : Ints _ _ _ := BlkI.ints (n := 2) (l := [1, 2]) v1 rfl
 refine ((SameInts_any _ _ [1, 2] [1, 2] W68 rn v1 (by decide)).mono (fun _ _ h => (⟨h.1.trans (by rw [decide_eq_true rfl]), h.2⟩ : _ = Ending.returned (.bool true) ∧ _))).mono ?_
 rintro e W69 ⟨rfl, hl⟩
 replace hB := bthen hB hl
 replace rn := rn.carry hl
 replace ro := ro.carry hl
 replace rp := rp.carry hl
 replace v1 := v1.carry hl
 clear hl
 clear rn
 clear v1
 go_wp2_with fail
 refine (told_any _ [(1, 2), (2, 2), (3, 4), (4, 4)] W69 (by decide) ro).mono ?_
 rintro e W70 ⟨⟨uc, rfl, hc⟩, hl⟩
 replace hB := bthen hB hl
 replace ro := ro.carry hl
 replace rp := rp.carry hl
 clear hl
 replace hc : Prs _ _ _ := hc.rw pV_len
 clear ro
 go_wp2_with fail
 obtain ⟨W71, hW71⟩ : ∃ v, v = World.alloc W70 (Obj.cells #[.int .i64 2, .int .i64 2, .int .i64 4, .int .i64 4] 3) := ⟨_, rfl⟩
 have kW71 : Below W70.heap.size W70 W71 := by rw [hW71]; exact below_new _ _
 have iW71 : Blk W71 (W70.heap.size) 3 [.int .i64 2, .int .i64 2, .int .i64 4, .int .i64 4] := by rw [hW71]; exact Blk.new _ _ _
 have sW71 : W71.heap.size = W70.heap.size + 1 := by rw [hW71]; simp
 rw [← hW71]
 clear hW71
 replace hB := bthen hB kW71
 replace rp := rp.carry kW71
 replace hc := hc.carry kW71
 generalize W70.heap.size = Bv1 at iW71 ⊢
 have v1 := iW71
 clear iW71 kW71 sW71
 replace v1 : Ints _ _ _ := BlkI.ints (n := 4) (l := [2, 2, 4, 4]) v1 rfl
 refine (train_any 1 _ [2, 2, 4, 4] W71 (by decide) (by decide) v1).mono ?_
 rintro e W72 ⟨⟨ut, rfl, ht⟩, hl⟩
 replace hB := bthen hB hl
 replace rp := rp.carry hl
 replace hc := hc.carry hl
 replace v1 := v1.carry hl
 clear hl
 replace ht : Prs _ _ (trnL 1 [2, 2, 4, 4] 4) := ht.rw pV_len
 rw [ex_tr2] at ht
 clear v1
 go_wp2_with fail
 refine (told_any _ [(1, 2), (2, 2), (3, 4), (4, 4)] W72 (by decide) ht).mono ?_
 rintro e W73 ⟨⟨ut2, rfl, ht2⟩, hl⟩
 replace hB := bthen hB hl
 replace rp := rp.carry hl
 replace hc := hc.carry hl
 replace ht := ht.carry hl
 clear hl
 replace ht2 : Prs _ _ _ := ht2.rw pV_len
 clear ht
 go_wp2_with fail
 refine ((SameTrain_any _ _ [(1, 2), (2, 2), (3, 4), (4, 4)] [(1, 2), (2, 2), (3, 4), (4, 4)] W73 hc ht2 (by decide)).mono (fun _ _ h => (⟨h.1.trans (by rw [decide_eq_true rfl]), h.2⟩ : _ = Ending.returned (.bool true) ∧ _))).mono ?_
 rintro e W74 ⟨rfl, hl⟩
 replace hB := bthen hB hl
 replace rp := rp.carry hl
 replace hc := hc.carry hl
 replace ht2 := ht2.carry hl
 clear hl
 clear hc
 clear ht2
 go_wp2_with fail
 refine (told_any _ [(1, 3), (2, 3), (3, 9), (4, 9)] W74 (by decide) rp).mono ?_
 rintro e W75 ⟨⟨uc, rfl, hc⟩, hl⟩
 replace hB := bthen hB hl
 replace rp := rp.carry hl
 clear hl
 replace hc : Prs _ _ _ := hc.rw pV_len
 clear rp
 go_wp2_with fail
 obtain ⟨W76, hW76⟩ : ∃ v, v = World.alloc W75 (Obj.cells #[.int .i64 3, .int .i64 3, .int .i64 9, .int .i64 9] 3) := ⟨_, rfl⟩
 have kW76 : Below W75.heap.size W75 W76 := by rw [hW76]; exact below_new _ _
 have iW76 : Blk W76 (W75.heap.size) 3 [.int .i64 3, .int .i64 3, .int .i64 9, .int .i64 9] := by rw [hW76]; exact Blk.new _ _ _
 have sW76 : W76.heap.size = W75.heap.size + 1 := by rw [hW76]; simp
 rw [← hW76]
 clear hW76
 replace hB := bthen hB kW76
 replace hc := hc.carry kW76
 generalize W75.heap.size = Bv1 at iW76 ⊢
 have v1 := iW76
 clear iW76 kW76 sW76
 replace v1 : Ints _ _ _ := BlkI.ints (n := 4) (l := [3, 3, 9, 9]) v1 rfl
 refine (train_any 1 _ [3, 3, 9, 9] W76 (by decide) (by decide) v1).mono ?_
 rintro e W77 ⟨⟨ut, rfl, ht⟩, hl⟩
 replace hB := bthen hB hl
 replace hc := hc.carry hl
 replace v1 := v1.carry hl
 clear hl
 replace ht : Prs _ _ (trnL 1 [3, 3, 9, 9] 4) := ht.rw pV_len
 rw [ex_tr3] at ht
 clear v1
 go_wp2_with fail
 refine (told_any _ [(1, 3), (2, 3), (3, 9), (4, 9)] W77 (by decide) ht).mono ?_
 rintro e W78 ⟨⟨ut2, rfl, ht2⟩, hl⟩
 replace hB := bthen hB hl
 replace hc := hc.carry hl
 replace ht := ht.carry hl
 clear hl
 replace ht2 : Prs _ _ _ := ht2.rw pV_len
 clear ht
 go_wp2_with fail
 refine ((SameTrain_any _ _ [(1, 3), (2, 3), (3, 9), (4, 9)] [(1, 3), (2, 3), (3, 9), (4, 9)] W78 hc ht2 (by decide)).mono (fun _ _ h => (⟨h.1.trans (by rw [decide_eq_true rfl]), h.2⟩ : _ = Ending.returned (.bool true) ∧ _))).mono ?_
 rintro e W79 ⟨rfl, hl⟩
 replace hB := bthen hB hl
 replace hc := hc.carry hl
 replace ht2 := ht2.carry hl
 clear hl
 clear hc
 clear ht2
 go_wp2_with fail
 refine (modules_any W79).mono ?_
 rintro e W80 ⟨⟨um, rfl, hm⟩, hl⟩
 replace hB := bthen hB hl
 clear hl
 replace hm : Rw 4 mV _ _ exM := hm
 go_wp2_with fail
 refine (outages_any W80).mono ?_
 rintro e W81 ⟨⟨uo, rfl, ho⟩, hl⟩
 replace hB := bthen hB hl
 replace hm := hm.carry hl
 clear hl
 replace ho : Rw 3 iV _ _ exO := ho
 go_wp2_with fail
 have TT := Plan_any _ _ exM exO W81 (by decide) exM_sz (by decide) hm ho
 rw [ex_plan.1, ex_plan.2.1, ex_plan.2.2] at TT
 refine (TT).mono ?_
 rintro e W82 ⟨⟨ur, rfl, rr⟩, hl⟩
 replace hB := bthen hB hl
 replace hm := hm.carry hl
 replace ho := ho.carry hl
 clear hl
 clear TT
 clear hm
 clear ho
 go_wp2_with fail
 refine (modules_any W82).mono ?_
 rintro e W83 ⟨⟨um, rfl, hm⟩, hl⟩
 replace hB := bthen hB hl
 replace rr := rr.carry hl
 clear hl
 replace hm : Rw 4 mV _ _ exM := hm
 go_wp2_with fail
 refine (outages_any W83).mono ?_
 rintro e W84 ⟨⟨uo, rfl, ho⟩, hl⟩
 replace hB := bthen hB hl
 replace rr := rr.carry hl
 replace hm := hm.carry hl
 clear hl
 replace ho : Rw 3 iV _ _ exO := ho
 go_wp2_with fail
 have TT := Prices_any _ _ exM exO W84 (by decide) exM_sz (by decide) hm ho
 rw [ex_pri.1, ex_pri.2] at TT
 refine (TT).mono ?_
 rintro e W85 ⟨⟨us, rfl, rs⟩, hl⟩
 replace hB := bthen hB hl
 replace rr := rr.carry hl
 replace hm := hm.carry hl
 replace ho := ho.carry hl
 clear hl
 clear TT
 clear hm
 clear ho
 go_wp2_with fail
 refine (modules_any W85).mono ?_
 rintro e W86 ⟨⟨um, rfl, hm⟩, hl⟩
 replace hB := bthen hB hl
 replace rr := rr.carry hl
 replace rs := rs.carry hl
 clear hl
 replace hm : Rw 4 mV _ _ exM := hm
 go_wp2_with fail
 refine (outages_any W86).mono ?_
 rintro e W87 ⟨⟨uo, rfl, ho⟩, hl⟩
 replace hB := bthen hB hl
 replace rr := rr.carry hl
 replace rs := rs.carry hl
 replace hm := hm.carry hl
 clear hl
 replace ho : Rw 3 iV _ _ exO := ho
 go_wp2_with fail
 obtain ⟨W88, hW88⟩ : ∃ v, v = World.alloc W87 (Obj.cells #[.int .i64 4, .int .i64 6] 3) := ⟨_, rfl⟩
 have kW88 : Below W87.heap.size W87 W88 := by rw [hW88]; exact below_new _ _
 have iW88 : Blk W88 (W87.heap.size) 3 [.int .i64 4, .int .i64 6] := by rw [hW88]; exact Blk.new _ _ _
 have sW88 : W88.heap.size = W87.heap.size + 1 := by rw [hW88]; simp
 rw [← hW88]
 clear hW88
 replace hB := bthen hB kW88
 replace rr := rr.carry kW88
 replace rs := rs.carry kW88
 replace hm := hm.carry kW88
 replace ho := ho.carry kW88
 generalize W87.heap.size = Bv1 at iW88 ⊢
 have v1 := iW88
 clear iW88 kW88 sW88
 replace v1 : Ints _ _ _ := BlkI.ints (n := 2) (l := [4, 6]) v1 rfl
 have TT := CheckPrices_any _ _ _ exM exO [4, 6] W88 (by decide) exM_sz (by decide) (by decide) hm ho v1
 rw [ex_prf.1, ex_prf.2] at TT
 refine (TT).mono ?_
 rintro e W89 ⟨rfl, hl⟩
 replace hB := bthen hB hl
 replace rr := rr.carry hl
 replace rs := rs.carry hl
 replace hm := hm.carry hl
 replace ho := ho.carry hl
 replace v1 := v1.carry hl
 clear hl
 clear TT
 clear hm
 clear ho
 clear v1
 go_wp2_with fail
 refine (modules_any W89).mono ?_
 rintro e W90 ⟨⟨um, rfl, hm⟩, hl⟩
 replace hB := bthen hB hl
 replace rr := rr.carry hl
 replace rs := rs.carry hl
 clear hl
 replace hm : Rw 4 mV _ _ exM := hm
 go_wp2_with fail
 refine (outages_any W90).mono ?_
 rintro e W91 ⟨⟨uo, rfl, ho⟩, hl⟩
 replace hB := bthen hB hl
 replace rr := rr.carry hl
 replace rs := rs.carry hl
 replace hm := hm.carry hl
 clear hl
 replace ho : Rw 3 iV _ _ exO := ho
 go_wp2_with fail
 obtain ⟨W92, hW92⟩ : ∃ v, v = World.alloc W91 (Obj.cells #[.int .i64 0, .int .i64 1] 3) := ⟨_, rfl⟩
 have kW92 : Below W91.heap.size W91 W92 := by rw [hW92]; exact below_new _ _
 have iW92 : Blk W92 (W91.heap.size) 3 [.int .i64 0, .int .i64 1] := by rw [hW92]; exact Blk.new _ _ _
 have sW92 : W92.heap.size = W91.heap.size + 1 := by rw [hW92]; simp
 rw [← hW92]
 clear hW92
 replace hB := bthen hB kW92
 replace rr := rr.carry kW92
 replace rs := rs.carry kW92
 replace hm := hm.carry kW92
 replace ho := ho.carry kW92
 generalize W91.heap.size = Bv1 at iW92 ⊢
 have v1 := iW92
 clear iW92 kW92 sW92
 replace v1 : Ints _ _ _ := BlkI.ints (n := 2) (l := [0, 1]) v1 rfl
 have hd0 := Rw.nil 2 pV W92 none 0
 have TT := Spares_any _ _ _ _ exM exO [0, 1] [] W92 (by decide) exM_sz (by decide) (by decide) (by decide) hm ho v1 hd0
 rw [ex_spr0.1, ex_spr0.2] at TT
 refine (TT).mono ?_
 rintro e W93 ⟨rfl, hl⟩
 replace hB := bthen hB hl
 replace rr := rr.carry hl
 replace rs := rs.carry hl
 replace hm := hm.carry hl
 replace ho := ho.carry hl
 replace v1 := v1.carry hl
 clear hl
 clear TT
 clear hm
 clear ho
 clear v1
 clear hd0
 go_wp2_with fail
 refine (modules_any W93).mono ?_
 rintro e W94 ⟨⟨um, rfl, hm⟩, hl⟩
 replace hB := bthen hB hl
 replace rr := rr.carry hl
 replace rs := rs.carry hl
 clear hl
 replace hm : Rw 4 mV _ _ exM := hm
 go_wp2_with fail
 refine (outages_any W94).mono ?_
 rintro e W95 ⟨⟨uo, rfl, ho⟩, hl⟩
 replace hB := bthen hB hl
 replace rr := rr.carry hl
 replace rs := rs.carry hl
 replace hm := hm.carry hl
 clear hl
 replace ho : Rw 3 iV _ _ exO := ho
 go_wp2_with fail
 obtain ⟨W96, hW96⟩ : ∃ v, v = World.alloc W95 (Obj.cells #[.int .i64 0, .int .i64 1] 3) := ⟨_, rfl⟩
 have kW96 : Below W95.heap.size W95 W96 := by rw [hW96]; exact below_new _ _
 have iW96 : Blk W96 (W95.heap.size) 3 [.int .i64 0, .int .i64 1] := by rw [hW96]; exact Blk.new _ _ _
 have sW96 : W96.heap.size = W95.heap.size + 1 := by rw [hW96]; simp
 rw [← hW96]
 clear hW96
 replace hB := bthen hB kW96
 replace rr := rr.carry kW96
 replace rs := rs.carry kW96
 replace hm := hm.carry kW96
 replace ho := ho.carry kW96
 obtain ⟨W97, hW97⟩ : ∃ v, v = World.alloc W96 (Obj.cells #[.int .i64 15, .int .i64 1] 95) := ⟨_, rfl⟩
 have kW97 : Below W96.heap.size W96 W97 := by rw [hW97]; exact below_new _ _
 have iW97 : Blk W97 (W95.heap.size + 1) 95 [.int .i64 15, .int .i64 1] := by rw [hW97, ← sW96]; exact Blk.new _ _ _
 have sW97 : W97.heap.size = W95.heap.size + 1 + 1 := by rw [hW97]; simp [sW96]
 rw [← hW97]
 clear hW97
 replace iW96 := iW96.carry kW97
 replace hB := bthen hB kW97
 replace rr := rr.carry kW97
 replace rs := rs.carry kW97
 replace hm := hm.carry kW97
 replace ho := ho.carry kW97
 have v1 := iW96
 have dl := iW97
 clear iW96 iW97 kW96 kW97 sW96 sW97
 generalize W95.heap.size + 1 = Bdl at dl ⊢
 generalize W95.heap.size = Bv1 at v1 ⊢
 replace v1 : Ints _ _ _ := BlkI.ints (n := 2) (l := [0, 1]) v1 rfl
 replace dl : Prs _ _ [(15, 1)] := Rw.of_blk pV_len (l := [(15, 1)]) dl 1 1 rfl (Nat.le_refl _)
 have TT := Spares_any _ _ _ _ exM exO [0, 1] [(15, 1)] W97 (by decide) exM_sz (by decide) (by decide) (by decide) hm ho v1 dl
 rw [ex_spr1.1, ex_spr1.2] at TT
 refine (TT).mono ?_
 rintro e W98 ⟨rfl, hl⟩
 replace hB := bthen hB hl
 replace rr := rr.carry hl
 replace rs := rs.carry hl
 replace hm := hm.carry hl
 replace ho := ho.carry hl
 replace v1 := v1.carry hl
 replace dl := dl.carry hl
 clear hl
 clear TT
 clear hm
 clear ho
 clear v1
 clear dl
 go_wp2_with fail
 refine (three_any W98).mono ?_
 rintro e W99 ⟨⟨az, nz, cz, rfl, hz⟩, hl⟩
 replace hB := bthen hB hl
 replace rr := rr.carry hl
 replace rs := rs.carry hl
 clear hl
 replace hz : Prs _ _ exC := hz
 go_wp2_with fail
 have hw' := hw.carry hB
 have hh' := hh.carry hB
 have TT := Print_any 2 _ _ _ exC W99 (by decide) hz hw' hh'
 rw [ex_prt.1, ex_prt.2] at TT
 refine (TT).mono ?_
 rintro e W100 ⟨rfl, hl⟩
 replace hB := bthen hB hl
 replace rr := rr.carry hl
 replace rs := rs.carry hl
 replace hz := hz.carry hl
 clear hl
 clear TT
 clear hz
 clear hw' hh'
 go_wp2_with fail
 obtain ⟨W101, hW101⟩ : ∃ v, v = World.alloc W100 (Obj.cells #[.int .i64 0, .int .i64 1] 3) := ⟨_, rfl⟩
 have kW101 : Below W100.heap.size W100 W101 := by rw [hW101]; exact below_new _ _
 have iW101 : Blk W101 (W100.heap.size) 3 [.int .i64 0, .int .i64 1] := by rw [hW101]; exact Blk.new _ _ _
 have sW101 : W101.heap.size = W100.heap.size + 1 := by rw [hW101]; simp
 rw [← hW101]
 clear hW101
 replace hB := bthen hB kW101
 replace rr := rr.carry kW101
 replace rs := rs.carry kW101
 generalize W100.heap.size = Bv1 at iW101 ⊢
 have v1 := iW101
 clear iW101 kW101 sW101
 replace v1 : Ints _ _ _ := BlkI.ints (n := 2) (l := [0, 1]) v1 rfl
 refine ((SameInts_any _ _ [0, 1] [0, 1] W101 rr v1 (by decide)).mono (fun _ _ h => (⟨h.1.trans (by rw [decide_eq_true rfl]), h.2⟩ : _ = Ending.returned (.bool true) ∧ _))).mono ?_
 rintro e W102 ⟨rfl, hl⟩
 replace hB := bthen hB hl
 replace rr := rr.carry hl
 replace rs := rs.carry hl
 replace v1 := v1.carry hl
 clear hl
 clear rr
 clear v1
 go_wp2_with fail
 obtain ⟨W103, hW103⟩ : ∃ v, v = World.alloc W102 (Obj.cells #[.int .i64 10, .int .i64 0] 3) := ⟨_, rfl⟩
 have kW103 : Below W102.heap.size W102 W103 := by rw [hW103]; exact below_new _ _
 have iW103 : Blk W103 (W102.heap.size) 3 [.int .i64 10, .int .i64 0] := by rw [hW103]; exact Blk.new _ _ _
 have sW103 : W103.heap.size = W102.heap.size + 1 := by rw [hW103]; simp
 rw [← hW103]
 clear hW103
 replace hB := bthen hB kW103
 replace rs := rs.carry kW103
 generalize W102.heap.size = Bv1 at iW103 ⊢
 have v1 := iW103
 clear iW103 kW103 sW103
 replace v1 : Ints _ _ _ := BlkI.ints (n := 2) (l := [10, 0]) v1 rfl
 refine ((SameInts_any _ _ [10, 0] [10, 0] W103 rs v1 (by decide)).mono (fun _ _ h => (⟨h.1.trans (by rw [decide_eq_true rfl]), h.2⟩ : _ = Ending.returned (.bool true) ∧ _))).mono ?_
 rintro e W104 ⟨rfl, hl⟩
 replace hB := bthen hB hl
 replace rs := rs.carry hl
 replace v1 := v1.carry hl
 clear hl
 clear rs
 clear v1
 go_wp2_with fail
 go_ret
 exact ⟨rfl, hB⟩
end Go.Proofs.YtpmngcffkhbofaaGreatDoor

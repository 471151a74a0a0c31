/- The law HarmonicNumbers: the walk. (printed by gen/lawnum.py) -/
import Derived.Test.YtfkemdapmoponaaGreatDoorHpO
import Derived.Test.YtfkemdapmoponaaGreatDoorHarP
namespace Go.Proofs.YtfkemdapmoponaaGreatDoor
set_option linter.unusedSimpArgs false
set_option linter.unusedVariables false
open Go.RowKit

set_option maxHeartbeats 400000 in
theorem firstL_any (v : Value) (l : List Int) (w : World) (hl : l.length ≤ 1000000000) (hv : Ints w v l) : Calls Tryz.prog 12 #[v] w fun r w' => r = .returned (.int .i64 (firstE l)) ∧ w = w' := by
  have TF := Lib.hid (FirstR_any v l w hl hv)
  clear hv
  go_enter Tryz.func12, Tryz.ntmps12
  go_wp2_with fail
  refine TF.out.mono ?_
  rintro e w' ⟨rfl, rfl⟩
  go_wp2_with fail
  go_ret
  exact ⟨rfl, rfl⟩
theorem cycE_bd {x0 x1 x2 x3 : Int} (h : cycE x0 x1 x2 x3 = 0) : Bd 1048576 (x0, x1, x2, x3) := by
  unfold cycE allE at h
  have hm := firstE_mapOk h
  have b : ∀ z ∈ [x0, x1, x2, x3], -1048576 ≤ z ∧ z ≤ 1048576 := fun z hz => withinE_zero (hm z hz)
  exact ⟨b x0 (by simp), b x1 (by simp), b x2 (by simp), b x3 (by simp)⟩
theorem Tryz.infoCR : (Tryz.prog.info? 25).map (·.size) = some 4 := by kernel_rfl
theorem Tryz.infoRR : (Tryz.prog.info? 34).map (·.size) = some 2 := by kernel_rfl
/-- a value, or zero. -/
def vOr (e v : Int) : Int := if e = 0 then v else 0
theorem cyOr_v (e a b c d : Int) : cyOr e a b c d = .agg #[.int .i64 (vOr e a), .int .i64 (vOr e b), .int .i64 (vOr e c), .int .i64 (vOr e d)] := by
  unfold cyOr vOr; split <;> rfl
theorem twoOr_v (e a b : Int) : twoOr e a b = .agg #[.int .i64 (vOr e a), .int .i64 (vOr e b)] := by
  unfold twoOr vOr; split <;> rfl

set_option maxRecDepth 100000 in
set_option maxHeartbeats 40000000 in
theorem num_law (x0 x1 x2 x3 y0 y1 y2 y3 n : Int) (w : World) (hw : Powers w) (hp : Pows w) :
    Calls Tryz.prog 3 #[.agg #[.int .i64 x0, .int .i64 x1, .int .i64 x2, .int .i64 x3], .agg #[.int .i64 y0, .int .i64 y1, .int .i64 y2, .int .i64 y3], .int .i64 n] w fun e w' => e = .returned (.bool true) ∧ Below w.heap.size w w' := by
  have T1 := Lib.hid (fun W => ProductH_any x0 x1 x2 x3 y0 y1 y2 y3 W)
  have T2 := Lib.hid (fun W hW => TurnedH_any x0 x1 x2 x3 n W hW)
  have T3 := Lib.hid (fun W => StrengthH_any x0 x1 x2 x3 W)
  have T4 := Lib.hid (fun W => SignH_any x0 x1 W)
  have R0 := Lib.hid (fun W => CheckCycloR_any x0 x1 x2 x3 W)
  have R1 := Lib.hid (fun W => CheckCycloR_any y0 y1 y2 y3 W)
  have R2 := Lib.hid (fun W => CheckRange_any n (-100000) 100000 W)
  have R3 := Lib.hid (fun W => timesCR_any x0 x1 x2 x3 y0 y1 y2 y3 W)
  have R4 := Lib.hid (fun (he : turnE x0 x1 x2 x3 n = 0) W => by
    have he2 := he
    unfold turnE at he2
    obtain ⟨h1, h2⟩ := firstE_cons_ok he2
    obtain ⟨h2, _⟩ := firstE_cons_ok h2
    have hn := withinE_zero h2
    have := TurnedR_any x0 x1 x2 x3 n (mod12 n) W (by omega) (mod12_mod n).symm
    rw [← turn_rot (cycE_bd h1) (mod12 n) (mod12_lt n)] at this
    exact this)
  have R5 := Lib.hid (fun (he : cycE x0 x1 x2 x3 = 0) W => by
    have := StrengthCR_any x0 x1 x2 x3 W
    rw [← (strength_same (cycE_bd he)).1, ← (strength_same (cycE_bd he)).2] at this
    exact this)
  have R6 := Lib.hid (fun W => CheckRootR_any x0 x1 W)
  have R7 := Lib.hid (fun (he : rootE x0 x1 = 0) W => SignR_any x0 x1 W (rootE_ok he).1 (rootE_ok he).2)
  have F1 := Lib.hid (fun (u : Value) (W : World) (h : Ints W u [cycE x0 x1 x2 x3, cycE y0 y1 y2 y3]) => firstL_any u _ W (by simp) h)
  have F2 := Lib.hid (fun (u : Value) (W : World) (h : Ints W u [cycE x0 x1 x2 x3, withinE n (-100000) 100000]) => firstL_any u _ W (by simp) h)
  rw [show firstE [cycE x0 x1 x2 x3, cycE y0 y1 y2 y3] = prodCE x0 x1 x2 x3 y0 y1 y2 y3 from rfl] at F1
  rw [show firstE [cycE x0 x1 x2 x3, withinE n (-100000) 100000] = turnE x0 x1 x2 x3 n from rfl] at F2
  have hx1 : prodCE x0 x1 x2 x3 y0 y1 y2 y3 = 0 → cycE x0 x1 x2 x3 = 0 := fun h => (firstE_cons_ok h).1
  have hx2 : turnE x0 x1 x2 x3 n = 0 → cycE x0 x1 x2 x3 = 0 := fun h => (firstE_cons_ok h).1
  simp only [cyOr', cyOr_v, twoOr_v] at T1 T2 T3
  rw [show (if rootE x0 x1 = 0 then sgnR x0 x1 else 0) = vOr (rootE x0 x1) (sgnR x0 x1) from rfl] at T4
  generalize prodCE x0 x1 x2 x3 y0 y1 y2 y3 = e1 at T1 F1 hx1
  generalize turnE x0 x1 x2 x3 n = e2 at T2 R4 F2 hx2
  generalize cycE x0 x1 x2 x3 = ex at T3 R0 R5 F1 F2 hx1 hx2
  generalize cycE y0 y1 y2 y3 = ey at R1 F1
  generalize withinE n (-100000) 100000 = en at R2 F2
  generalize rootE x0 x1 = e4 at T4 R6 R7
  generalize cy0 x0 x1 x2 x3 y0 y1 y2 y3 = m0 at T1 R3
  generalize cy1 x0 x1 x2 x3 y0 y1 y2 y3 = m1 at T1 R3
  generalize cy2 x0 x1 x2 x3 y0 y1 y2 y3 = m2 at T1 R3
  generalize cy3 x0 x1 x2 x3 y0 y1 y2 y3 = m3 at T1 R3
  generalize turnC (x0, x1, x2, x3) (mod12 n) = tt at T2 R4
  obtain ⟨u0, u1, u2, u3⟩ := tt
  simp only [cyV] at T2 R4
  generalize st0 x0 x1 x2 x3 = r0 at T3 R5
  generalize st1 x0 x1 x2 x3 = r1 at T3 R5
  generalize sgnR x0 x1 = sg at T4 R7
  obtain ⟨p0, hp0⟩ : ∃ v, v = vOr e1 m0 := ⟨_, rfl⟩
  obtain ⟨p1, hp1⟩ : ∃ v, v = vOr e1 m1 := ⟨_, rfl⟩
  obtain ⟨p2, hp2⟩ : ∃ v, v = vOr e1 m2 := ⟨_, rfl⟩
  obtain ⟨p3, hp3⟩ : ∃ v, v = vOr e1 m3 := ⟨_, rfl⟩
  obtain ⟨t0, ht0⟩ : ∃ v, v = vOr e2 u0 := ⟨_, rfl⟩
  obtain ⟨t1, ht1⟩ : ∃ v, v = vOr e2 u1 := ⟨_, rfl⟩
  obtain ⟨t2, ht2⟩ : ∃ v, v = vOr e2 u2 := ⟨_, rfl⟩
  obtain ⟨t3, ht3⟩ : ∃ v, v = vOr e2 u3 := ⟨_, rfl⟩
  obtain ⟨s0, hs0⟩ : ∃ v, v = vOr ex r0 := ⟨_, rfl⟩
  obtain ⟨s1, hs1⟩ : ∃ v, v = vOr ex r1 := ⟨_, rfl⟩
  obtain ⟨g, hg⟩ : ∃ v, v = vOr e4 sg := ⟨_, rfl⟩
  rw [← hp0, ← hp1, ← hp2, ← hp3] at T1
  rw [← ht0, ← ht1, ← ht2, ← ht3] at T2
  rw [← hs0, ← hs1] at T3
  rw [← hg] at T4
  have HP := Lib.hid (And.intro hp0 (And.intro hp1 (And.intro hp2 hp3)))
  have HT := Lib.hid (And.intro ht0 (And.intro ht1 (And.intro ht2 ht3)))
  have HS := Lib.hid (And.intro hs0 hs1)
  have HG := Lib.hid hg
  have HX := Lib.hid (And.intro hx1 hx2)
  clear hp0 hp1 hp2 hp3 ht0 ht1 ht2 ht3 hs0 hs1 hg hx1 hx2
  go_enter Tryz.func3, Tryz.ntmps3
  go_upto_region 1 with fail
  have hB : Below w.heap.size w w := Below.refl _ _
  obtain ⟨Ya, hYa⟩ : ∃ v, v = World.alloc w (Obj.cells #[.int .i64 x0, .int .i64 x1, .int .i64 x2, .int .i64 x3] 25) := ⟨_, rfl⟩
  have kYa : Below w.heap.size w Ya := by rw [hYa]; exact below_new _ _
  have iYa : Blk Ya (w.heap.size) 25 [.int .i64 x0, .int .i64 x1, .int .i64 x2, .int .i64 x3] := by rw [hYa]; exact Blk.new _ _ _
  have sYa : Ya.heap.size = w.heap.size + 1 := by rw [hYa]; simp
  rw [← hYa]
  clear hYa
  obtain ⟨Yb, hYb⟩ : ∃ v, v = World.alloc Ya (Obj.cells #[.int .i64 y0, .int .i64 y1, .int .i64 y2, .int .i64 y3] 25) := ⟨_, rfl⟩
  have kYb : Below Ya.heap.size Ya Yb := by rw [hYb]; exact below_new _ _
  have iYb : Blk Yb (w.heap.size + 1) 25 [.int .i64 y0, .int .i64 y1, .int .i64 y2, .int .i64 y3] := by rw [hYb, ← sYa]; exact Blk.new _ _ _
  have sYb : Yb.heap.size = w.heap.size + 1 + 1 := by rw [hYb]; simp [sYa]
  rw [← hYb]
  clear hYb
  replace hB := bthen kYa kYb
  have bx : BlkI Yb w.heap.size 25 [x0, x1, x2, x3] := iYa.carry kYb
  have hb0 : w.heap.size + 2 = Yb.heap.size := by omega
  have by' : BlkI Yb (w.heap.size + 1) 25 [y0, y1, y2, y3] := iYb
  clear iYa iYb kYa kYb sYa sYb
  have qbx0 : Yb.cell? ⟨w.heap.size, 0, none⟩ = some (.int .i64 x0) := BlkI.cell (l := [x0, x1, x2, x3]) bx (j := 0) (by simp)
  have qbx1 : Yb.cell? ⟨w.heap.size, 1, none⟩ = some (.int .i64 x1) := BlkI.cell (l := [x0, x1, x2, x3]) bx (j := 1) (by simp)
  have qbx2 : Yb.cell? ⟨w.heap.size, 2, none⟩ = some (.int .i64 x2) := BlkI.cell (l := [x0, x1, x2, x3]) bx (j := 2) (by simp)
  have qbx3 : Yb.cell? ⟨w.heap.size, 3, none⟩ = some (.int .i64 x3) := BlkI.cell (l := [x0, x1, x2, x3]) bx (j := 3) (by simp)
  have qby'0 : Yb.cell? ⟨w.heap.size + 1, 0, none⟩ = some (.int .i64 y0) := BlkI.cell (l := [y0, y1, y2, y3]) by' (j := 0) (by simp)
  have qby'1 : Yb.cell? ⟨w.heap.size + 1, 1, none⟩ = some (.int .i64 y1) := BlkI.cell (l := [y0, y1, y2, y3]) by' (j := 1) (by simp)
  have qby'2 : Yb.cell? ⟨w.heap.size + 1, 2, none⟩ = some (.int .i64 y2) := BlkI.cell (l := [y0, y1, y2, y3]) by' (j := 2) (by simp)
  have qby'3 : Yb.cell? ⟨w.heap.size + 1, 3, none⟩ = some (.int .i64 y3) := BlkI.cell (l := [y0, y1, y2, y3]) by' (j := 3) (by simp)
  go_wp2_with fail
  clear qbx0 qbx1 qbx2 qbx3 qby'0 qby'1 qby'2 qby'3
  refine (T1.out Yb).mono ?_
  rintro e Y1 ⟨rfl, hl⟩
  replace hB := bthen hB hl
  replace bx := bx.carry hl
  replace by' := by'.carry hl
  clear hl
  go_upto_region 2 with fail
  obtain ⟨Y2, hY2⟩ : ∃ v, v = World.alloc Y1 (Obj.cells #[.int .i64 p0, .int .i64 p1, .int .i64 p2, .int .i64 p3] 26) := ⟨_, rfl⟩
  have kY2 : Below Y1.heap.size Y1 Y2 := by rw [hY2]; exact below_new _ _
  have iY2 : Blk Y2 (Y1.heap.size) 26 [.int .i64 p0, .int .i64 p1, .int .i64 p2, .int .i64 p3] := by rw [hY2]; exact Blk.new _ _ _
  have sY2 : Y2.heap.size = Y1.heap.size + 1 := by rw [hY2]; simp
  rw [← hY2]
  clear hY2
  replace hB := bthen hB kY2
  replace bx := bx.carry kY2
  replace by' := by'.carry kY2
  obtain ⟨Bb7, hBb7⟩ : ∃ B, B = Y1.heap.size := ⟨_, rfl⟩
  rw [← hBb7] at iY2 ⊢
  have b7 : BlkI Y2 Bb7 26 [p0, p1, p2, p3] := iY2
  clear iY2 kY2 sY2 hBb7
  have qbx0 : Y2.cell? ⟨w.heap.size, 0, none⟩ = some (.int .i64 x0) := BlkI.cell (l := [x0, x1, x2, x3]) bx (j := 0) (by simp)
  have qbx1 : Y2.cell? ⟨w.heap.size, 1, none⟩ = some (.int .i64 x1) := BlkI.cell (l := [x0, x1, x2, x3]) bx (j := 1) (by simp)
  have qbx2 : Y2.cell? ⟨w.heap.size, 2, none⟩ = some (.int .i64 x2) := BlkI.cell (l := [x0, x1, x2, x3]) bx (j := 2) (by simp)
  have qbx3 : Y2.cell? ⟨w.heap.size, 3, none⟩ = some (.int .i64 x3) := BlkI.cell (l := [x0, x1, x2, x3]) bx (j := 3) (by simp)
  go_wp2_with fail
  clear qbx0 qbx1 qbx2 qbx3
  refine (T2.out Y2 (hw.carry hB)).mono ?_
  rintro e Y3 ⟨rfl, hl⟩
  replace hB := bthen hB hl
  replace bx := bx.carry hl
  replace by' := by'.carry hl
  replace b7 := b7.carry hl
  clear hl
  go_upto_region 3 with fail
  obtain ⟨Y4, hY4⟩ : ∃ v, v = World.alloc Y3 (Obj.cells #[.int .i64 t0, .int .i64 t1, .int .i64 t2, .int .i64 t3] 26) := ⟨_, rfl⟩
  have kY4 : Below Y3.heap.size Y3 Y4 := by rw [hY4]; exact below_new _ _
  have iY4 : Blk Y4 (Y3.heap.size) 26 [.int .i64 t0, .int .i64 t1, .int .i64 t2, .int .i64 t3] := by rw [hY4]; exact Blk.new _ _ _
  have sY4 : Y4.heap.size = Y3.heap.size + 1 := by rw [hY4]; simp
  rw [← hY4]
  clear hY4
  replace hB := bthen hB kY4
  replace bx := bx.carry kY4
  replace by' := by'.carry kY4
  replace b7 := b7.carry kY4
  obtain ⟨Bb9, hBb9⟩ : ∃ B, B = Y3.heap.size := ⟨_, rfl⟩
  rw [← hBb9] at iY4 ⊢
  have b9 : BlkI Y4 Bb9 26 [t0, t1, t2, t3] := iY4
  clear iY4 kY4 sY4 hBb9
  have qbx0 : Y4.cell? ⟨w.heap.size, 0, none⟩ = some (.int .i64 x0) := BlkI.cell (l := [x0, x1, x2, x3]) bx (j := 0) (by simp)
  have qbx1 : Y4.cell? ⟨w.heap.size, 1, none⟩ = some (.int .i64 x1) := BlkI.cell (l := [x0, x1, x2, x3]) bx (j := 1) (by simp)
  have qbx2 : Y4.cell? ⟨w.heap.size, 2, none⟩ = some (.int .i64 x2) := BlkI.cell (l := [x0, x1, x2, x3]) bx (j := 2) (by simp)
  have qbx3 : Y4.cell? ⟨w.heap.size, 3, none⟩ = some (.int .i64 x3) := BlkI.cell (l := [x0, x1, x2, x3]) bx (j := 3) (by simp)
  go_wp2_with fail
  clear qbx0 qbx1 qbx2 qbx3
  refine (T3.out Y4).mono ?_
  rintro e Y5 ⟨rfl, hl⟩
  replace hB := bthen hB hl
  replace bx := bx.carry hl
  replace by' := by'.carry hl
  replace b7 := b7.carry hl
  replace b9 := b9.carry hl
  clear hl
  go_upto_region 4 with fail
  obtain ⟨Y6, hY6⟩ : ∃ v, v = World.alloc Y5 (Obj.cells #[.int .i64 s0, .int .i64 s1] 31) := ⟨_, rfl⟩
  have kY6 : Below Y5.heap.size Y5 Y6 := by rw [hY6]; exact below_new _ _
  have iY6 : Blk Y6 (Y5.heap.size) 31 [.int .i64 s0, .int .i64 s1] := by rw [hY6]; exact Blk.new _ _ _
  have sY6 : Y6.heap.size = Y5.heap.size + 1 := by rw [hY6]; simp
  rw [← hY6]
  clear hY6
  replace hB := bthen hB kY6
  replace bx := bx.carry kY6
  replace by' := by'.carry kY6
  replace b7 := b7.carry kY6
  replace b9 := b9.carry kY6
  obtain ⟨Bb11, hBb11⟩ : ∃ B, B = Y5.heap.size := ⟨_, rfl⟩
  rw [← hBb11] at iY6 ⊢
  have b11 : BlkI Y6 Bb11 31 [s0, s1] := iY6
  clear iY6 kY6 sY6 hBb11
  have qbx0 : Y6.cell? ⟨w.heap.size, 0, none⟩ = some (.int .i64 x0) := BlkI.cell (l := [x0, x1, x2, x3]) bx (j := 0) (by simp)
  have qbx1 : Y6.cell? ⟨w.heap.size, 1, none⟩ = some (.int .i64 x1) := BlkI.cell (l := [x0, x1, x2, x3]) bx (j := 1) (by simp)
  have qbx2 : Y6.cell? ⟨w.heap.size, 2, none⟩ = some (.int .i64 x2) := BlkI.cell (l := [x0, x1, x2, x3]) bx (j := 2) (by simp)
  have qbx3 : Y6.cell? ⟨w.heap.size, 3, none⟩ = some (.int .i64 x3) := BlkI.cell (l := [x0, x1, x2, x3]) bx (j := 3) (by simp)
  go_upto_region 5 with fail
  clear qbx0 qbx1 qbx2 qbx3
  obtain ⟨Y7, hY7⟩ : ∃ v, v = World.alloc Y6 (Obj.cells #[.int .i64 x0, .int .i64 x1] 34) := ⟨_, rfl⟩
  have kY7 : Below Y6.heap.size Y6 Y7 := by rw [hY7]; exact below_new _ _
  have iY7 : Blk Y7 (Y6.heap.size) 34 [.int .i64 x0, .int .i64 x1] := by rw [hY7]; exact Blk.new _ _ _
  have sY7 : Y7.heap.size = Y6.heap.size + 1 := by rw [hY7]; simp
  rw [← hY7]
  clear hY7
  replace hB := bthen hB kY7
  replace bx := bx.carry kY7
  replace by' := by'.carry kY7
  replace b7 := b7.carry kY7
  replace b9 := b9.carry kY7
  replace b11 := b11.carry kY7
  obtain ⟨Bb13, hBb13⟩ : ∃ B, B = Y6.heap.size := ⟨_, rfl⟩
  rw [← hBb13] at iY7 ⊢
  have b13 : BlkI Y7 Bb13 34 [x0, x1] := iY7
  clear iY7 kY7 sY7 hBb13
  have qb130 : Y7.cell? ⟨Bb13, 0, none⟩ = some (.int .i64 x0) := BlkI.cell (l := [x0, x1]) b13 (j := 0) (by simp)
  have qb131 : Y7.cell? ⟨Bb13, 1, none⟩ = some (.int .i64 x1) := BlkI.cell (l := [x0, x1]) b13 (j := 1) (by simp)
  go_wp2_with fail
  clear qb130 qb131
  refine (T4.out Y7).mono ?_
  rintro e Y8 ⟨rfl, hl⟩
  replace hB := bthen hB hl
  replace bx := bx.carry hl
  replace by' := by'.carry hl
  replace b7 := b7.carry hl
  replace b9 := b9.carry hl
  replace b11 := b11.carry hl
  replace b13 := b13.carry hl
  clear hl
  have qbx0 : Y8.cell? ⟨w.heap.size, 0, none⟩ = some (.int .i64 x0) := BlkI.cell (l := [x0, x1, x2, x3]) bx (j := 0) (by simp)
  have qbx1 : Y8.cell? ⟨w.heap.size, 1, none⟩ = some (.int .i64 x1) := BlkI.cell (l := [x0, x1, x2, x3]) bx (j := 1) (by simp)
  have qbx2 : Y8.cell? ⟨w.heap.size, 2, none⟩ = some (.int .i64 x2) := BlkI.cell (l := [x0, x1, x2, x3]) bx (j := 2) (by simp)
  have qbx3 : Y8.cell? ⟨w.heap.size, 3, none⟩ = some (.int .i64 x3) := BlkI.cell (l := [x0, x1, x2, x3]) bx (j := 3) (by simp)
  go_wp2_with fail
  clear qbx0 qbx1 qbx2 qbx3
  refine (R0.out Y8).mono ?_
  rintro e Y9 ⟨rfl, hl⟩
  replace hB := bthen hB hl
  replace bx := bx.carry hl
  replace by' := by'.carry hl
  replace b7 := b7.carry hl
  replace b9 := b9.carry hl
  replace b11 := b11.carry hl
  replace b13 := b13.carry hl
  clear hl
  have qby'0 : Y9.cell? ⟨w.heap.size + 1, 0, none⟩ = some (.int .i64 y0) := BlkI.cell (l := [y0, y1, y2, y3]) by' (j := 0) (by simp)
  have qby'1 : Y9.cell? ⟨w.heap.size + 1, 1, none⟩ = some (.int .i64 y1) := BlkI.cell (l := [y0, y1, y2, y3]) by' (j := 1) (by simp)
  have qby'2 : Y9.cell? ⟨w.heap.size + 1, 2, none⟩ = some (.int .i64 y2) := BlkI.cell (l := [y0, y1, y2, y3]) by' (j := 2) (by simp)
  have qby'3 : Y9.cell? ⟨w.heap.size + 1, 3, none⟩ = some (.int .i64 y3) := BlkI.cell (l := [y0, y1, y2, y3]) by' (j := 3) (by simp)
  go_wp2_with fail
  clear qby'0 qby'1 qby'2 qby'3
  refine (R1.out Y9).mono ?_
  rintro e Y10 ⟨rfl, hl⟩
  replace hB := bthen hB hl
  replace bx := bx.carry hl
  replace by' := by'.carry hl
  replace b7 := b7.carry hl
  replace b9 := b9.carry hl
  replace b11 := b11.carry hl
  replace b13 := b13.carry hl
  clear hl
  go_wp2_with fail
  obtain ⟨Y11, hY11⟩ : ∃ v, v = World.alloc Y10 (Obj.cells #[.int .i64 ex, .int .i64 ey] 3) := ⟨_, rfl⟩
  have kY11 : Below Y10.heap.size Y10 Y11 := by rw [hY11]; exact below_new _ _
  have iY11 : Blk Y11 (Y10.heap.size) 3 [.int .i64 ex, .int .i64 ey] := by rw [hY11]; exact Blk.new _ _ _
  have sY11 : Y11.heap.size = Y10.heap.size + 1 := by rw [hY11]; simp
  rw [← hY11]
  clear hY11
  replace hB := bthen hB kY11
  replace bx := bx.carry kY11
  replace by' := by'.carry kY11
  replace b7 := b7.carry kY11
  replace b9 := b9.carry kY11
  replace b11 := b11.carry kY11
  replace b13 := b13.carry kY11
  obtain ⟨Bf1, hBf1⟩ : ∃ B, B = Y10.heap.size := ⟨_, rfl⟩
  rw [← hBf1] at iY11 ⊢
  have f1 : BlkI Y11 Bf1 3 [ex, ey] := iY11
  clear iY11 kY11 sY11 hBf1
  refine (F1.out _ Y11 (BlkI.ints (l := [ex, ey]) f1 rfl)).mono ?_
  rintro e w' ⟨rfl, rfl⟩
  clear f1
  go_wp2_with fail
  refine (R2.out Y11).mono ?_
  rintro e w' ⟨rfl, rfl⟩
  go_wp2_with fail
  obtain ⟨Y12, hY12⟩ : ∃ v, v = World.alloc Y11 (Obj.cells #[.int .i64 ex, .int .i64 en] 3) := ⟨_, rfl⟩
  have kY12 : Below Y11.heap.size Y11 Y12 := by rw [hY12]; exact below_new _ _
  have iY12 : Blk Y12 (Y11.heap.size) 3 [.int .i64 ex, .int .i64 en] := by rw [hY12]; exact Blk.new _ _ _
  have sY12 : Y12.heap.size = Y11.heap.size + 1 := by rw [hY12]; simp
  rw [← hY12]
  clear hY12
  replace hB := bthen hB kY12
  replace bx := bx.carry kY12
  replace by' := by'.carry kY12
  replace b7 := b7.carry kY12
  replace b9 := b9.carry kY12
  replace b11 := b11.carry kY12
  replace b13 := b13.carry kY12
  obtain ⟨Bf2, hBf2⟩ : ∃ B, B = Y11.heap.size := ⟨_, rfl⟩
  rw [← hBf2] at iY12 ⊢
  have f2 : BlkI Y12 Bf2 3 [ex, en] := iY12
  clear iY12 kY12 sY12 hBf2
  refine (F2.out _ Y12 (BlkI.ints (l := [ex, en]) f2 rfl)).mono ?_
  rintro e w' ⟨rfl, rfl⟩
  clear f2
  go_upto_region 11 with fail
  have hz7 : Bb7 < Y12.heap.size := Blk.lt b7
  have hz9 : Bb9 < Y12.heap.size := Blk.lt b9
  have hz11 : Bb11 < Y12.heap.size := Blk.lt b11
  have hz13 : Bb13 < Y12.heap.size := Blk.lt b13
  have hz0 : w.heap.size + 1 < Y12.heap.size := Blk.lt by'
  obtain ⟨Y13, hY13⟩ : ∃ v, v = World.alloc Y12 (Obj.cells #[.int .i64 0, .int .i64 0, .int .i64 0, .int .i64 0] 25) := ⟨_, rfl⟩
  have kY13 : Below Y12.heap.size Y12 Y13 := by rw [hY13]; exact below_new _ _
  have iY13 : BlkI Y13 (Y12.heap.size) 25 (List.replicate 4 0) := by rw [hY13]; exact BlkI.new Y12 25 (List.replicate 4 0)
  have sY13 : Y13.heap.size = Y12.heap.size + 1 := by rw [hY13]; simp
  rw [← hY13]
  clear hY13
  replace hB := bthen hB kY13
  replace bx := bx.carry kY13
  replace by' := by'.carry kY13
  replace b7 := b7.carry kY13
  replace b9 := b9.carry kY13
  replace b11 := b11.carry kY13
  replace b13 := b13.carry kY13
  have c19 := iY13
  clear iY13
  obtain ⟨Y14, hY14⟩ : ∃ v, v = World.alloc Y13 (Obj.cells #[.int .i64 0, .int .i64 0, .int .i64 0, .int .i64 0] 25) := ⟨_, rfl⟩
  have kY14 : Below Y13.heap.size Y13 Y14 := by rw [hY14]; exact below_new _ _
  have iY14 : BlkI Y14 (Y12.heap.size + 1) 25 (List.replicate 4 0) := by rw [hY14, ← sY13]; exact BlkI.new Y13 25 (List.replicate 4 0)
  have sY14 : Y14.heap.size = Y12.heap.size + 1 + 1 := by rw [hY14]; simp [sY13]
  rw [← hY14]
  clear hY14
  replace hB := bthen hB kY14
  replace bx := bx.carry kY14
  replace by' := by'.carry kY14
  replace b7 := b7.carry kY14
  replace b9 := b9.carry kY14
  replace b11 := b11.carry kY14
  replace b13 := b13.carry kY14
  replace c19 := c19.carry kY14
  have c20 := iY14
  clear iY14
  obtain ⟨Y15, hY15⟩ : ∃ v, v = World.alloc Y14 (Obj.cells #[.int .i64 0, .int .i64 0] 34) := ⟨_, rfl⟩
  have kY15 : Below Y14.heap.size Y14 Y15 := by rw [hY15]; exact below_new _ _
  have iY15 : BlkI Y15 (Y12.heap.size + 1 + 1) 34 (List.replicate 2 0) := by rw [hY15, ← sY14]; exact BlkI.new Y14 34 (List.replicate 2 0)
  have sY15 : Y15.heap.size = Y12.heap.size + 1 + 1 + 1 := by rw [hY15]; simp [sY14]
  rw [← hY15]
  clear hY15
  replace hB := bthen hB kY15
  replace bx := bx.carry kY15
  replace by' := by'.carry kY15
  replace b7 := b7.carry kY15
  replace b9 := b9.carry kY15
  replace b11 := b11.carry kY15
  replace b13 := b13.carry kY15
  replace c19 := c19.carry kY15
  replace c20 := c20.carry kY15
  have c21 := iY15
  clear iY15
  have c19q : BlkI Y15 (Y12.heap.size) 25 [0, 0, 0, 0] := c19
  clear c19
  have c19 := c19q
  clear c19q
  have c20q : BlkI Y15 (Y12.heap.size + 1) 25 [0, 0, 0, 0] := c20
  clear c20
  have c20 := c20q
  clear c20q
  have c21q : BlkI Y15 (Y12.heap.size + 1 + 1) 34 [0, 0] := c21
  clear c21
  have c21 := c21q
  clear c21q
  clear kY13 sY13 kY14 sY14 kY15 sY15
  generalize Y12.heap.size = Z at c19 c20 c21 hz7 hz9 hz11 hz13 hz0 ⊢
  clear F1 F2 T1 T2 T3 T4 R0 R1 R2
  by_cases h1 : e1 = 0
  · subst h1
    obtain rfl : ex = 0 := HX.out.1 rfl
    obtain ⟨rfl, rfl, rfl, rfl⟩ : p0 = m0 ∧ p1 = m1 ∧ p2 = m2 ∧ p3 = m3 := HP.out
    have qbx0 : Y15.cell? ⟨w.heap.size, 0, none⟩ = some (.int .i64 x0) := BlkI.cell (l := [x0, x1, x2, x3]) bx (j := 0) (by simp)
    have qbx1 : Y15.cell? ⟨w.heap.size, 1, none⟩ = some (.int .i64 x1) := BlkI.cell (l := [x0, x1, x2, x3]) bx (j := 1) (by simp)
    have qbx2 : Y15.cell? ⟨w.heap.size, 2, none⟩ = some (.int .i64 x2) := BlkI.cell (l := [x0, x1, x2, x3]) bx (j := 2) (by simp)
    have qbx3 : Y15.cell? ⟨w.heap.size, 3, none⟩ = some (.int .i64 x3) := BlkI.cell (l := [x0, x1, x2, x3]) bx (j := 3) (by simp)
    have qby'0 : Y15.cell? ⟨w.heap.size + 1, 0, none⟩ = some (.int .i64 y0) := BlkI.cell (l := [y0, y1, y2, y3]) by' (j := 0) (by simp)
    have qby'1 : Y15.cell? ⟨w.heap.size + 1, 1, none⟩ = some (.int .i64 y1) := BlkI.cell (l := [y0, y1, y2, y3]) by' (j := 1) (by simp)
    have qby'2 : Y15.cell? ⟨w.heap.size + 1, 2, none⟩ = some (.int .i64 y2) := BlkI.cell (l := [y0, y1, y2, y3]) by' (j := 2) (by simp)
    have qby'3 : Y15.cell? ⟨w.heap.size + 1, 3, none⟩ = some (.int .i64 y3) := BlkI.cell (l := [y0, y1, y2, y3]) by' (j := 3) (by simp)
    go_upto_region 12 with fail
    go_wp2_with fail
    clear qbx0 qbx1 qbx2 qbx3 qby'0 qby'1 qby'2 qby'3
    refine (R3.out Y15).mono ?_
    rintro e Y16 ⟨rfl, hl⟩
    replace hB := bthen hB hl
    replace bx := bx.carry hl
    replace by' := by'.carry hl
    replace b7 := b7.carry hl
    replace b9 := b9.carry hl
    replace b11 := b11.carry hl
    replace b13 := b13.carry hl
    replace c19 := c19.carry hl
    replace c20 := c20.carry hl
    replace c21 := c21.carry hl
    clear hl
    go_upto_region 13 with (refine wpList_storeA rfl _ _ _ rfl (Z) [p0, p1, p2, p3] [0, 0, 0, 0] rfl rfl c19 rfl Tryz.infoCR ?_)
    obtain ⟨Y17, hY17⟩ : ∃ W, W = World.setRow Y16 (Z) (ia [p0, p1, p2, p3]) := ⟨_, rfl⟩
    rw [← hY17]
    replace hB := below_rowA hB (by omega : w.heap.size ≤ Z) (ia [p0, p1, p2, p3])
    rw [← hY17] at hB
    replace c19 := BlkI.setRowA c19 [p0, p1, p2, p3]
    rw [← hY17] at c19
    replace bx := BlkI.setRowO bx (B' := Z) (by omega) (ia [p0, p1, p2, p3])
    rw [← hY17] at bx
    replace by' := BlkI.setRowO by' (B' := Z) (by omega) (ia [p0, p1, p2, p3])
    rw [← hY17] at by'
    replace b7 := BlkI.setRowO b7 (B' := Z) (by omega) (ia [p0, p1, p2, p3])
    rw [← hY17] at b7
    replace b9 := BlkI.setRowO b9 (B' := Z) (by omega) (ia [p0, p1, p2, p3])
    rw [← hY17] at b9
    replace b11 := BlkI.setRowO b11 (B' := Z) (by omega) (ia [p0, p1, p2, p3])
    rw [← hY17] at b11
    replace b13 := BlkI.setRowO b13 (B' := Z) (by omega) (ia [p0, p1, p2, p3])
    rw [← hY17] at b13
    replace c20 := BlkI.setRowO c20 (B' := Z) (by omega) (ia [p0, p1, p2, p3])
    rw [← hY17] at c20
    replace c21 := BlkI.setRowO c21 (B' := Z) (by omega) (ia [p0, p1, p2, p3])
    rw [← hY17] at c21
    clear hY17
    by_cases h2 : e2 = 0
    · subst h2
      obtain ⟨rfl, rfl, rfl, rfl⟩ : t0 = u0 ∧ t1 = u1 ∧ t2 = u2 ∧ t3 = u3 := HT.out
      have R4b := Lib.hid (R4.out (by trivial))
      clear R4
      have qbx0 : Y17.cell? ⟨w.heap.size, 0, none⟩ = some (.int .i64 x0) := BlkI.cell (l := [x0, x1, x2, x3]) bx (j := 0) (by simp)
      have qbx1 : Y17.cell? ⟨w.heap.size, 1, none⟩ = some (.int .i64 x1) := BlkI.cell (l := [x0, x1, x2, x3]) bx (j := 1) (by simp)
      have qbx2 : Y17.cell? ⟨w.heap.size, 2, none⟩ = some (.int .i64 x2) := BlkI.cell (l := [x0, x1, x2, x3]) bx (j := 2) (by simp)
      have qbx3 : Y17.cell? ⟨w.heap.size, 3, none⟩ = some (.int .i64 x3) := BlkI.cell (l := [x0, x1, x2, x3]) bx (j := 3) (by simp)
      go_upto_region 14 with fail
      go_wp2_with fail
      clear qbx0 qbx1 qbx2 qbx3
      refine (R4b.out Y17).mono ?_
      rintro e Y18 ⟨rfl, hl⟩
      replace hB := bthen hB hl
      replace bx := bx.carry hl
      replace by' := by'.carry hl
      replace b7 := b7.carry hl
      replace b9 := b9.carry hl
      replace b11 := b11.carry hl
      replace b13 := b13.carry hl
      replace c19 := c19.carry hl
      replace c20 := c20.carry hl
      replace c21 := c21.carry hl
      clear hl
      go_upto_region 15 with (refine wpList_storeA rfl _ _ _ rfl (Z + 1) [t0, t1, t2, t3] [0, 0, 0, 0] rfl rfl c20 rfl Tryz.infoCR ?_)
      obtain ⟨Y19, hY19⟩ : ∃ W, W = World.setRow Y18 (Z + 1) (ia [t0, t1, t2, t3]) := ⟨_, rfl⟩
      rw [← hY19]
      replace hB := below_rowA hB (by omega : w.heap.size ≤ Z + 1) (ia [t0, t1, t2, t3])
      rw [← hY19] at hB
      replace c20 := BlkI.setRowA c20 [t0, t1, t2, t3]
      rw [← hY19] at c20
      replace bx := BlkI.setRowO bx (B' := Z + 1) (by omega) (ia [t0, t1, t2, t3])
      rw [← hY19] at bx
      replace by' := BlkI.setRowO by' (B' := Z + 1) (by omega) (ia [t0, t1, t2, t3])
      rw [← hY19] at by'
      replace b7 := BlkI.setRowO b7 (B' := Z + 1) (by omega) (ia [t0, t1, t2, t3])
      rw [← hY19] at b7
      replace b9 := BlkI.setRowO b9 (B' := Z + 1) (by omega) (ia [t0, t1, t2, t3])
      rw [← hY19] at b9
      replace b11 := BlkI.setRowO b11 (B' := Z + 1) (by omega) (ia [t0, t1, t2, t3])
      rw [← hY19] at b11
      replace b13 := BlkI.setRowO b13 (B' := Z + 1) (by omega) (ia [t0, t1, t2, t3])
      rw [← hY19] at b13
      replace c19 := BlkI.setRowO c19 (B' := Z + 1) (by omega) (ia [t0, t1, t2, t3])
      rw [← hY19] at c19
      replace c21 := BlkI.setRowO c21 (B' := Z + 1) (by omega) (ia [t0, t1, t2, t3])
      rw [← hY19] at c21
      clear hY19
      obtain ⟨rfl, rfl⟩ : s0 = r0 ∧ s1 = r1 := HS.out
      have R5b := Lib.hid (R5.out (by trivial))
      clear R5
      have qbx0 : Y19.cell? ⟨w.heap.size, 0, none⟩ = some (.int .i64 x0) := BlkI.cell (l := [x0, x1, x2, x3]) bx (j := 0) (by simp)
      have qbx1 : Y19.cell? ⟨w.heap.size, 1, none⟩ = some (.int .i64 x1) := BlkI.cell (l := [x0, x1, x2, x3]) bx (j := 1) (by simp)
      have qbx2 : Y19.cell? ⟨w.heap.size, 2, none⟩ = some (.int .i64 x2) := BlkI.cell (l := [x0, x1, x2, x3]) bx (j := 2) (by simp)
      have qbx3 : Y19.cell? ⟨w.heap.size, 3, none⟩ = some (.int .i64 x3) := BlkI.cell (l := [x0, x1, x2, x3]) bx (j := 3) (by simp)
      go_upto_region 16 with fail
      go_wp2_with fail
      clear qbx0 qbx1 qbx2 qbx3
      refine (R5b.out Y19).mono ?_
      rintro e Y20 ⟨rfl, hl⟩
      replace hB := bthen hB hl
      replace bx := bx.carry hl
      replace by' := by'.carry hl
      replace b7 := b7.carry hl
      replace b9 := b9.carry hl
      replace b11 := b11.carry hl
      replace b13 := b13.carry hl
      replace c19 := c19.carry hl
      replace c20 := c20.carry hl
      replace c21 := c21.carry hl
      clear hl
      go_upto_region 17 with (refine wpList_storeA rfl _ _ _ rfl (Z + 1 + 1) [s0, s1] [0, 0] rfl rfl c21 rfl Tryz.infoRR ?_)
      obtain ⟨Y21, hY21⟩ : ∃ W, W = World.setRow Y20 (Z + 1 + 1) (ia [s0, s1]) := ⟨_, rfl⟩
      rw [← hY21]
      replace hB := below_rowA hB (by omega : w.heap.size ≤ Z + 1 + 1) (ia [s0, s1])
      rw [← hY21] at hB
      replace c21 := BlkI.setRowA c21 [s0, s1]
      rw [← hY21] at c21
      replace bx := BlkI.setRowO bx (B' := Z + 1 + 1) (by omega) (ia [s0, s1])
      rw [← hY21] at bx
      replace by' := BlkI.setRowO by' (B' := Z + 1 + 1) (by omega) (ia [s0, s1])
      rw [← hY21] at by'
      replace b7 := BlkI.setRowO b7 (B' := Z + 1 + 1) (by omega) (ia [s0, s1])
      rw [← hY21] at b7
      replace b9 := BlkI.setRowO b9 (B' := Z + 1 + 1) (by omega) (ia [s0, s1])
      rw [← hY21] at b9
      replace b11 := BlkI.setRowO b11 (B' := Z + 1 + 1) (by omega) (ia [s0, s1])
      rw [← hY21] at b11
      replace b13 := BlkI.setRowO b13 (B' := Z + 1 + 1) (by omega) (ia [s0, s1])
      rw [← hY21] at b13
      replace c19 := BlkI.setRowO c19 (B' := Z + 1 + 1) (by omega) (ia [s0, s1])
      rw [← hY21] at c19
      replace c20 := BlkI.setRowO c20 (B' := Z + 1 + 1) (by omega) (ia [s0, s1])
      rw [← hY21] at c20
      clear hY21
      have qb130 : Y21.cell? ⟨Bb13, 0, none⟩ = some (.int .i64 x0) := BlkI.cell (l := [x0, x1]) b13 (j := 0) (by simp)
      have qb131 : Y21.cell? ⟨Bb13, 1, none⟩ = some (.int .i64 x1) := BlkI.cell (l := [x0, x1]) b13 (j := 1) (by simp)
      go_wp2_with fail
      clear qb130 qb131
      refine (R6.out Y21).mono ?_
      rintro e Y22 ⟨rfl, hl⟩
      replace hB := bthen hB hl
      replace bx := bx.carry hl
      replace by' := by'.carry hl
      replace b7 := b7.carry hl
      replace b9 := b9.carry hl
      replace b11 := b11.carry hl
      replace b13 := b13.carry hl
      replace c19 := c19.carry hl
      replace c20 := c20.carry hl
      replace c21 := c21.carry hl
      clear hl
      by_cases h4 : e4 = 0
      · subst h4
        obtain rfl : g = sg := HG.out
        have R7b := Lib.hid (R7.out (by trivial))
        clear R7
        have qb130 : Y22.cell? ⟨Bb13, 0, none⟩ = some (.int .i64 x0) := BlkI.cell (l := [x0, x1]) b13 (j := 0) (by simp)
        have qb131 : Y22.cell? ⟨Bb13, 1, none⟩ = some (.int .i64 x1) := BlkI.cell (l := [x0, x1]) b13 (j := 1) (by simp)
        go_wp2_with fail
        clear qb130 qb131
        refine (R7b.out Y22).mono ?_
        rintro e Y23 ⟨rfl, hl⟩
        replace hB := bthen hB hl
        replace bx := bx.carry hl
        replace by' := by'.carry hl
        replace b7 := b7.carry hl
        replace b9 := b9.carry hl
        replace b11 := b11.carry hl
        replace b13 := b13.carry hl
        replace c19 := c19.carry hl
        replace c20 := c20.carry hl
        replace c21 := c21.carry hl
        clear hl
        have qb70 : Y23.cell? ⟨Bb7, 0, none⟩ = some (.int .i64 p0) := BlkI.cell (l := [p0, p1, p2, p3]) b7 (j := 0) (by simp)
        have qb71 : Y23.cell? ⟨Bb7, 1, none⟩ = some (.int .i64 p1) := BlkI.cell (l := [p0, p1, p2, p3]) b7 (j := 1) (by simp)
        have qb72 : Y23.cell? ⟨Bb7, 2, none⟩ = some (.int .i64 p2) := BlkI.cell (l := [p0, p1, p2, p3]) b7 (j := 2) (by simp)
        have qb73 : Y23.cell? ⟨Bb7, 3, none⟩ = some (.int .i64 p3) := BlkI.cell (l := [p0, p1, p2, p3]) b7 (j := 3) (by simp)
        have qc190 : Y23.cell? ⟨Z, 0, none⟩ = some (.int .i64 p0) := BlkI.cell (l := [p0, p1, p2, p3]) c19 (j := 0) (by simp)
        have qc191 : Y23.cell? ⟨Z, 1, none⟩ = some (.int .i64 p1) := BlkI.cell (l := [p0, p1, p2, p3]) c19 (j := 1) (by simp)
        have qc192 : Y23.cell? ⟨Z, 2, none⟩ = some (.int .i64 p2) := BlkI.cell (l := [p0, p1, p2, p3]) c19 (j := 2) (by simp)
        have qc193 : Y23.cell? ⟨Z, 3, none⟩ = some (.int .i64 p3) := BlkI.cell (l := [p0, p1, p2, p3]) c19 (j := 3) (by simp)
        have qb90 : Y23.cell? ⟨Bb9, 0, none⟩ = some (.int .i64 t0) := BlkI.cell (l := [t0, t1, t2, t3]) b9 (j := 0) (by simp)
        have qb91 : Y23.cell? ⟨Bb9, 1, none⟩ = some (.int .i64 t1) := BlkI.cell (l := [t0, t1, t2, t3]) b9 (j := 1) (by simp)
        have qb92 : Y23.cell? ⟨Bb9, 2, none⟩ = some (.int .i64 t2) := BlkI.cell (l := [t0, t1, t2, t3]) b9 (j := 2) (by simp)
        have qb93 : Y23.cell? ⟨Bb9, 3, none⟩ = some (.int .i64 t3) := BlkI.cell (l := [t0, t1, t2, t3]) b9 (j := 3) (by simp)
        have qc200 : Y23.cell? ⟨Z + 1, 0, none⟩ = some (.int .i64 t0) := BlkI.cell (l := [t0, t1, t2, t3]) c20 (j := 0) (by simp)
        have qc201 : Y23.cell? ⟨Z + 1, 1, none⟩ = some (.int .i64 t1) := BlkI.cell (l := [t0, t1, t2, t3]) c20 (j := 1) (by simp)
        have qc202 : Y23.cell? ⟨Z + 1, 2, none⟩ = some (.int .i64 t2) := BlkI.cell (l := [t0, t1, t2, t3]) c20 (j := 2) (by simp)
        have qc203 : Y23.cell? ⟨Z + 1, 3, none⟩ = some (.int .i64 t3) := BlkI.cell (l := [t0, t1, t2, t3]) c20 (j := 3) (by simp)
        have qb110 : Y23.cell? ⟨Bb11, 0, none⟩ = some (.int .i64 s0) := BlkI.cell (l := [s0, s1]) b11 (j := 0) (by simp)
        have qb111 : Y23.cell? ⟨Bb11, 1, none⟩ = some (.int .i64 s1) := BlkI.cell (l := [s0, s1]) b11 (j := 1) (by simp)
        have qc210 : Y23.cell? ⟨Z + 1 + 1, 0, none⟩ = some (.int .i64 s0) := BlkI.cell (l := [s0, s1]) c21 (j := 0) (by simp)
        have qc211 : Y23.cell? ⟨Z + 1 + 1, 1, none⟩ = some (.int .i64 s1) := BlkI.cell (l := [s0, s1]) c21 (j := 1) (by simp)
        have qb130 : Y23.cell? ⟨Bb13, 0, none⟩ = some (.int .i64 x0) := BlkI.cell (l := [x0, x1]) b13 (j := 0) (by simp)
        have qb131 : Y23.cell? ⟨Bb13, 1, none⟩ = some (.int .i64 x1) := BlkI.cell (l := [x0, x1]) b13 (j := 1) (by simp)
        go_wp2_with fail
        clear qb70 qb71 qb72 qb73 qc190 qc191 qc192 qc193 qb90 qb91 qb92 qb93 qc200 qc201 qc202 qc203 qb110 qb111 qc210 qc211 qb130 qb131
        refine (R6.out Y23).mono ?_
        rintro e Y24 ⟨rfl, hl⟩
        replace hB := bthen hB hl
        replace bx := bx.carry hl
        replace by' := by'.carry hl
        replace b7 := b7.carry hl
        replace b9 := b9.carry hl
        replace b11 := b11.carry hl
        replace b13 := b13.carry hl
        replace c19 := c19.carry hl
        replace c20 := c20.carry hl
        replace c21 := c21.carry hl
        clear hl
        go_wp2_with fail
        refine (awake_any Y24 (hw.carry hB) (hp.carry hB)).mono ?_
        rintro e Y25 ⟨rfl, hl⟩
        replace hB := bthen hB hl
        replace bx := bx.carry hl
        replace by' := by'.carry hl
        replace b7 := b7.carry hl
        replace b9 := b9.carry hl
        replace b11 := b11.carry hl
        replace b13 := b13.carry hl
        replace c19 := c19.carry hl
        replace c20 := c20.carry hl
        replace c21 := c21.carry hl
        clear hl
        go_wp2_with fail
        go_ret
        exact ⟨rfl, hB⟩
      · have z4 : (e4 == 0) = false := by rw [beq_eq_false_iff_ne]; exact h4
        obtain rfl : g = 0 := by have := HG.out; rw [vOr, if_neg h4] at this; exact this
        clear R7
        have qb70 : Y22.cell? ⟨Bb7, 0, none⟩ = some (.int .i64 p0) := BlkI.cell (l := [p0, p1, p2, p3]) b7 (j := 0) (by simp)
        have qb71 : Y22.cell? ⟨Bb7, 1, none⟩ = some (.int .i64 p1) := BlkI.cell (l := [p0, p1, p2, p3]) b7 (j := 1) (by simp)
        have qb72 : Y22.cell? ⟨Bb7, 2, none⟩ = some (.int .i64 p2) := BlkI.cell (l := [p0, p1, p2, p3]) b7 (j := 2) (by simp)
        have qb73 : Y22.cell? ⟨Bb7, 3, none⟩ = some (.int .i64 p3) := BlkI.cell (l := [p0, p1, p2, p3]) b7 (j := 3) (by simp)
        have qc190 : Y22.cell? ⟨Z, 0, none⟩ = some (.int .i64 p0) := BlkI.cell (l := [p0, p1, p2, p3]) c19 (j := 0) (by simp)
        have qc191 : Y22.cell? ⟨Z, 1, none⟩ = some (.int .i64 p1) := BlkI.cell (l := [p0, p1, p2, p3]) c19 (j := 1) (by simp)
        have qc192 : Y22.cell? ⟨Z, 2, none⟩ = some (.int .i64 p2) := BlkI.cell (l := [p0, p1, p2, p3]) c19 (j := 2) (by simp)
        have qc193 : Y22.cell? ⟨Z, 3, none⟩ = some (.int .i64 p3) := BlkI.cell (l := [p0, p1, p2, p3]) c19 (j := 3) (by simp)
        have qb90 : Y22.cell? ⟨Bb9, 0, none⟩ = some (.int .i64 t0) := BlkI.cell (l := [t0, t1, t2, t3]) b9 (j := 0) (by simp)
        have qb91 : Y22.cell? ⟨Bb9, 1, none⟩ = some (.int .i64 t1) := BlkI.cell (l := [t0, t1, t2, t3]) b9 (j := 1) (by simp)
        have qb92 : Y22.cell? ⟨Bb9, 2, none⟩ = some (.int .i64 t2) := BlkI.cell (l := [t0, t1, t2, t3]) b9 (j := 2) (by simp)
        have qb93 : Y22.cell? ⟨Bb9, 3, none⟩ = some (.int .i64 t3) := BlkI.cell (l := [t0, t1, t2, t3]) b9 (j := 3) (by simp)
        have qc200 : Y22.cell? ⟨Z + 1, 0, none⟩ = some (.int .i64 t0) := BlkI.cell (l := [t0, t1, t2, t3]) c20 (j := 0) (by simp)
        have qc201 : Y22.cell? ⟨Z + 1, 1, none⟩ = some (.int .i64 t1) := BlkI.cell (l := [t0, t1, t2, t3]) c20 (j := 1) (by simp)
        have qc202 : Y22.cell? ⟨Z + 1, 2, none⟩ = some (.int .i64 t2) := BlkI.cell (l := [t0, t1, t2, t3]) c20 (j := 2) (by simp)
        have qc203 : Y22.cell? ⟨Z + 1, 3, none⟩ = some (.int .i64 t3) := BlkI.cell (l := [t0, t1, t2, t3]) c20 (j := 3) (by simp)
        have qb110 : Y22.cell? ⟨Bb11, 0, none⟩ = some (.int .i64 s0) := BlkI.cell (l := [s0, s1]) b11 (j := 0) (by simp)
        have qb111 : Y22.cell? ⟨Bb11, 1, none⟩ = some (.int .i64 s1) := BlkI.cell (l := [s0, s1]) b11 (j := 1) (by simp)
        have qc210 : Y22.cell? ⟨Z + 1 + 1, 0, none⟩ = some (.int .i64 s0) := BlkI.cell (l := [s0, s1]) c21 (j := 0) (by simp)
        have qc211 : Y22.cell? ⟨Z + 1 + 1, 1, none⟩ = some (.int .i64 s1) := BlkI.cell (l := [s0, s1]) c21 (j := 1) (by simp)
        have qb130 : Y22.cell? ⟨Bb13, 0, none⟩ = some (.int .i64 x0) := BlkI.cell (l := [x0, x1]) b13 (j := 0) (by simp)
        have qb131 : Y22.cell? ⟨Bb13, 1, none⟩ = some (.int .i64 x1) := BlkI.cell (l := [x0, x1]) b13 (j := 1) (by simp)
        go_wp2_with fail
        clear qb70 qb71 qb72 qb73 qc190 qc191 qc192 qc193 qb90 qb91 qb92 qb93 qc200 qc201 qc202 qc203 qb110 qb111 qc210 qc211 qb130 qb131
        refine (R6.out Y22).mono ?_
        rintro e Y23 ⟨rfl, hl⟩
        replace hB := bthen hB hl
        replace bx := bx.carry hl
        replace by' := by'.carry hl
        replace b7 := b7.carry hl
        replace b9 := b9.carry hl
        replace b11 := b11.carry hl
        replace b13 := b13.carry hl
        replace c19 := c19.carry hl
        replace c20 := c20.carry hl
        replace c21 := c21.carry hl
        clear hl
        go_wp2_with fail
        refine (awake_any Y23 (hw.carry hB) (hp.carry hB)).mono ?_
        rintro e Y24 ⟨rfl, hl⟩
        replace hB := bthen hB hl
        replace bx := bx.carry hl
        replace by' := by'.carry hl
        replace b7 := b7.carry hl
        replace b9 := b9.carry hl
        replace b11 := b11.carry hl
        replace b13 := b13.carry hl
        replace c19 := c19.carry hl
        replace c20 := c20.carry hl
        replace c21 := c21.carry hl
        clear hl
        go_wp2_with fail
        go_ret
        exact ⟨rfl, hB⟩
    · have z2 : (e2 == 0) = false := by rw [beq_eq_false_iff_ne]; exact h2
      obtain ⟨rfl, rfl, rfl, rfl⟩ : t0 = 0 ∧ t1 = 0 ∧ t2 = 0 ∧ t3 = 0 := by have := HT.out; rw [vOr, vOr, vOr, vOr, if_neg h2, if_neg h2, if_neg h2, if_neg h2] at this; exact this
      clear R4
      go_upto_region 15 with fail
      obtain ⟨rfl, rfl⟩ : s0 = r0 ∧ s1 = r1 := HS.out
      have R5b := Lib.hid (R5.out (by trivial))
      clear R5
      have qbx0 : Y17.cell? ⟨w.heap.size, 0, none⟩ = some (.int .i64 x0) := BlkI.cell (l := [x0, x1, x2, x3]) bx (j := 0) (by simp)
      have qbx1 : Y17.cell? ⟨w.heap.size, 1, none⟩ = some (.int .i64 x1) := BlkI.cell (l := [x0, x1, x2, x3]) bx (j := 1) (by simp)
      have qbx2 : Y17.cell? ⟨w.heap.size, 2, none⟩ = some (.int .i64 x2) := BlkI.cell (l := [x0, x1, x2, x3]) bx (j := 2) (by simp)
      have qbx3 : Y17.cell? ⟨w.heap.size, 3, none⟩ = some (.int .i64 x3) := BlkI.cell (l := [x0, x1, x2, x3]) bx (j := 3) (by simp)
      go_upto_region 16 with fail
      go_wp2_with fail
      clear qbx0 qbx1 qbx2 qbx3
      refine (R5b.out Y17).mono ?_
      rintro e Y18 ⟨rfl, hl⟩
      replace hB := bthen hB hl
      replace bx := bx.carry hl
      replace by' := by'.carry hl
      replace b7 := b7.carry hl
      replace b9 := b9.carry hl
      replace b11 := b11.carry hl
      replace b13 := b13.carry hl
      replace c19 := c19.carry hl
      replace c20 := c20.carry hl
      replace c21 := c21.carry hl
      clear hl
      go_upto_region 17 with (refine wpList_storeA rfl _ _ _ rfl (Z + 1 + 1) [s0, s1] [0, 0] rfl rfl c21 rfl Tryz.infoRR ?_)
      obtain ⟨Y19, hY19⟩ : ∃ W, W = World.setRow Y18 (Z + 1 + 1) (ia [s0, s1]) := ⟨_, rfl⟩
      rw [← hY19]
      replace hB := below_rowA hB (by omega : w.heap.size ≤ Z + 1 + 1) (ia [s0, s1])
      rw [← hY19] at hB
      replace c21 := BlkI.setRowA c21 [s0, s1]
      rw [← hY19] at c21
      replace bx := BlkI.setRowO bx (B' := Z + 1 + 1) (by omega) (ia [s0, s1])
      rw [← hY19] at bx
      replace by' := BlkI.setRowO by' (B' := Z + 1 + 1) (by omega) (ia [s0, s1])
      rw [← hY19] at by'
      replace b7 := BlkI.setRowO b7 (B' := Z + 1 + 1) (by omega) (ia [s0, s1])
      rw [← hY19] at b7
      replace b9 := BlkI.setRowO b9 (B' := Z + 1 + 1) (by omega) (ia [s0, s1])
      rw [← hY19] at b9
      replace b11 := BlkI.setRowO b11 (B' := Z + 1 + 1) (by omega) (ia [s0, s1])
      rw [← hY19] at b11
      replace b13 := BlkI.setRowO b13 (B' := Z + 1 + 1) (by omega) (ia [s0, s1])
      rw [← hY19] at b13
      replace c19 := BlkI.setRowO c19 (B' := Z + 1 + 1) (by omega) (ia [s0, s1])
      rw [← hY19] at c19
      replace c20 := BlkI.setRowO c20 (B' := Z + 1 + 1) (by omega) (ia [s0, s1])
      rw [← hY19] at c20
      clear hY19
      have qb130 : Y19.cell? ⟨Bb13, 0, none⟩ = some (.int .i64 x0) := BlkI.cell (l := [x0, x1]) b13 (j := 0) (by simp)
      have qb131 : Y19.cell? ⟨Bb13, 1, none⟩ = some (.int .i64 x1) := BlkI.cell (l := [x0, x1]) b13 (j := 1) (by simp)
      go_wp2_with fail
      clear qb130 qb131
      refine (R6.out Y19).mono ?_
      rintro e Y20 ⟨rfl, hl⟩
      replace hB := bthen hB hl
      replace bx := bx.carry hl
      replace by' := by'.carry hl
      replace b7 := b7.carry hl
      replace b9 := b9.carry hl
      replace b11 := b11.carry hl
      replace b13 := b13.carry hl
      replace c19 := c19.carry hl
      replace c20 := c20.carry hl
      replace c21 := c21.carry hl
      clear hl
      by_cases h4 : e4 = 0
      · subst h4
        obtain rfl : g = sg := HG.out
        have R7b := Lib.hid (R7.out (by trivial))
        clear R7
        have qb130 : Y20.cell? ⟨Bb13, 0, none⟩ = some (.int .i64 x0) := BlkI.cell (l := [x0, x1]) b13 (j := 0) (by simp)
        have qb131 : Y20.cell? ⟨Bb13, 1, none⟩ = some (.int .i64 x1) := BlkI.cell (l := [x0, x1]) b13 (j := 1) (by simp)
        go_wp2_with fail
        clear qb130 qb131
        refine (R7b.out Y20).mono ?_
        rintro e Y21 ⟨rfl, hl⟩
        replace hB := bthen hB hl
        replace bx := bx.carry hl
        replace by' := by'.carry hl
        replace b7 := b7.carry hl
        replace b9 := b9.carry hl
        replace b11 := b11.carry hl
        replace b13 := b13.carry hl
        replace c19 := c19.carry hl
        replace c20 := c20.carry hl
        replace c21 := c21.carry hl
        clear hl
        have qb70 : Y21.cell? ⟨Bb7, 0, none⟩ = some (.int .i64 p0) := BlkI.cell (l := [p0, p1, p2, p3]) b7 (j := 0) (by simp)
        have qb71 : Y21.cell? ⟨Bb7, 1, none⟩ = some (.int .i64 p1) := BlkI.cell (l := [p0, p1, p2, p3]) b7 (j := 1) (by simp)
        have qb72 : Y21.cell? ⟨Bb7, 2, none⟩ = some (.int .i64 p2) := BlkI.cell (l := [p0, p1, p2, p3]) b7 (j := 2) (by simp)
        have qb73 : Y21.cell? ⟨Bb7, 3, none⟩ = some (.int .i64 p3) := BlkI.cell (l := [p0, p1, p2, p3]) b7 (j := 3) (by simp)
        have qc190 : Y21.cell? ⟨Z, 0, none⟩ = some (.int .i64 p0) := BlkI.cell (l := [p0, p1, p2, p3]) c19 (j := 0) (by simp)
        have qc191 : Y21.cell? ⟨Z, 1, none⟩ = some (.int .i64 p1) := BlkI.cell (l := [p0, p1, p2, p3]) c19 (j := 1) (by simp)
        have qc192 : Y21.cell? ⟨Z, 2, none⟩ = some (.int .i64 p2) := BlkI.cell (l := [p0, p1, p2, p3]) c19 (j := 2) (by simp)
        have qc193 : Y21.cell? ⟨Z, 3, none⟩ = some (.int .i64 p3) := BlkI.cell (l := [p0, p1, p2, p3]) c19 (j := 3) (by simp)
        have qb90 : Y21.cell? ⟨Bb9, 0, none⟩ = some (.int .i64 0) := BlkI.cell (l := [0, 0, 0, 0]) b9 (j := 0) (by simp)
        have qb91 : Y21.cell? ⟨Bb9, 1, none⟩ = some (.int .i64 0) := BlkI.cell (l := [0, 0, 0, 0]) b9 (j := 1) (by simp)
        have qb92 : Y21.cell? ⟨Bb9, 2, none⟩ = some (.int .i64 0) := BlkI.cell (l := [0, 0, 0, 0]) b9 (j := 2) (by simp)
        have qb93 : Y21.cell? ⟨Bb9, 3, none⟩ = some (.int .i64 0) := BlkI.cell (l := [0, 0, 0, 0]) b9 (j := 3) (by simp)
        have qc200 : Y21.cell? ⟨Z + 1, 0, none⟩ = some (.int .i64 0) := BlkI.cell (l := [0, 0, 0, 0]) c20 (j := 0) (by simp)
        have qc201 : Y21.cell? ⟨Z + 1, 1, none⟩ = some (.int .i64 0) := BlkI.cell (l := [0, 0, 0, 0]) c20 (j := 1) (by simp)
        have qc202 : Y21.cell? ⟨Z + 1, 2, none⟩ = some (.int .i64 0) := BlkI.cell (l := [0, 0, 0, 0]) c20 (j := 2) (by simp)
        have qc203 : Y21.cell? ⟨Z + 1, 3, none⟩ = some (.int .i64 0) := BlkI.cell (l := [0, 0, 0, 0]) c20 (j := 3) (by simp)
        have qb110 : Y21.cell? ⟨Bb11, 0, none⟩ = some (.int .i64 s0) := BlkI.cell (l := [s0, s1]) b11 (j := 0) (by simp)
        have qb111 : Y21.cell? ⟨Bb11, 1, none⟩ = some (.int .i64 s1) := BlkI.cell (l := [s0, s1]) b11 (j := 1) (by simp)
        have qc210 : Y21.cell? ⟨Z + 1 + 1, 0, none⟩ = some (.int .i64 s0) := BlkI.cell (l := [s0, s1]) c21 (j := 0) (by simp)
        have qc211 : Y21.cell? ⟨Z + 1 + 1, 1, none⟩ = some (.int .i64 s1) := BlkI.cell (l := [s0, s1]) c21 (j := 1) (by simp)
        have qb130 : Y21.cell? ⟨Bb13, 0, none⟩ = some (.int .i64 x0) := BlkI.cell (l := [x0, x1]) b13 (j := 0) (by simp)
        have qb131 : Y21.cell? ⟨Bb13, 1, none⟩ = some (.int .i64 x1) := BlkI.cell (l := [x0, x1]) b13 (j := 1) (by simp)
        go_wp2_with fail
        clear qb70 qb71 qb72 qb73 qc190 qc191 qc192 qc193 qb90 qb91 qb92 qb93 qc200 qc201 qc202 qc203 qb110 qb111 qc210 qc211 qb130 qb131
        refine (R6.out Y21).mono ?_
        rintro e Y22 ⟨rfl, hl⟩
        replace hB := bthen hB hl
        replace bx := bx.carry hl
        replace by' := by'.carry hl
        replace b7 := b7.carry hl
        replace b9 := b9.carry hl
        replace b11 := b11.carry hl
        replace b13 := b13.carry hl
        replace c19 := c19.carry hl
        replace c20 := c20.carry hl
        replace c21 := c21.carry hl
        clear hl
        go_wp2_with fail
        refine (awake_any Y22 (hw.carry hB) (hp.carry hB)).mono ?_
        rintro e Y23 ⟨rfl, hl⟩
        replace hB := bthen hB hl
        replace bx := bx.carry hl
        replace by' := by'.carry hl
        replace b7 := b7.carry hl
        replace b9 := b9.carry hl
        replace b11 := b11.carry hl
        replace b13 := b13.carry hl
        replace c19 := c19.carry hl
        replace c20 := c20.carry hl
        replace c21 := c21.carry hl
        clear hl
        go_wp2_with fail
        go_ret
        exact ⟨rfl, hB⟩
      · have z4 : (e4 == 0) = false := by rw [beq_eq_false_iff_ne]; exact h4
        obtain rfl : g = 0 := by have := HG.out; rw [vOr, if_neg h4] at this; exact this
        clear R7
        have qb70 : Y20.cell? ⟨Bb7, 0, none⟩ = some (.int .i64 p0) := BlkI.cell (l := [p0, p1, p2, p3]) b7 (j := 0) (by simp)
        have qb71 : Y20.cell? ⟨Bb7, 1, none⟩ = some (.int .i64 p1) := BlkI.cell (l := [p0, p1, p2, p3]) b7 (j := 1) (by simp)
        have qb72 : Y20.cell? ⟨Bb7, 2, none⟩ = some (.int .i64 p2) := BlkI.cell (l := [p0, p1, p2, p3]) b7 (j := 2) (by simp)
        have qb73 : Y20.cell? ⟨Bb7, 3, none⟩ = some (.int .i64 p3) := BlkI.cell (l := [p0, p1, p2, p3]) b7 (j := 3) (by simp)
        have qc190 : Y20.cell? ⟨Z, 0, none⟩ = some (.int .i64 p0) := BlkI.cell (l := [p0, p1, p2, p3]) c19 (j := 0) (by simp)
        have qc191 : Y20.cell? ⟨Z, 1, none⟩ = some (.int .i64 p1) := BlkI.cell (l := [p0, p1, p2, p3]) c19 (j := 1) (by simp)
        have qc192 : Y20.cell? ⟨Z, 2, none⟩ = some (.int .i64 p2) := BlkI.cell (l := [p0, p1, p2, p3]) c19 (j := 2) (by simp)
        have qc193 : Y20.cell? ⟨Z, 3, none⟩ = some (.int .i64 p3) := BlkI.cell (l := [p0, p1, p2, p3]) c19 (j := 3) (by simp)
        have qb90 : Y20.cell? ⟨Bb9, 0, none⟩ = some (.int .i64 0) := BlkI.cell (l := [0, 0, 0, 0]) b9 (j := 0) (by simp)
        have qb91 : Y20.cell? ⟨Bb9, 1, none⟩ = some (.int .i64 0) := BlkI.cell (l := [0, 0, 0, 0]) b9 (j := 1) (by simp)
        have qb92 : Y20.cell? ⟨Bb9, 2, none⟩ = some (.int .i64 0) := BlkI.cell (l := [0, 0, 0, 0]) b9 (j := 2) (by simp)
        have qb93 : Y20.cell? ⟨Bb9, 3, none⟩ = some (.int .i64 0) := BlkI.cell (l := [0, 0, 0, 0]) b9 (j := 3) (by simp)
        have qc200 : Y20.cell? ⟨Z + 1, 0, none⟩ = some (.int .i64 0) := BlkI.cell (l := [0, 0, 0, 0]) c20 (j := 0) (by simp)
        have qc201 : Y20.cell? ⟨Z + 1, 1, none⟩ = some (.int .i64 0) := BlkI.cell (l := [0, 0, 0, 0]) c20 (j := 1) (by simp)
        have qc202 : Y20.cell? ⟨Z + 1, 2, none⟩ = some (.int .i64 0) := BlkI.cell (l := [0, 0, 0, 0]) c20 (j := 2) (by simp)
        have qc203 : Y20.cell? ⟨Z + 1, 3, none⟩ = some (.int .i64 0) := BlkI.cell (l := [0, 0, 0, 0]) c20 (j := 3) (by simp)
        have qb110 : Y20.cell? ⟨Bb11, 0, none⟩ = some (.int .i64 s0) := BlkI.cell (l := [s0, s1]) b11 (j := 0) (by simp)
        have qb111 : Y20.cell? ⟨Bb11, 1, none⟩ = some (.int .i64 s1) := BlkI.cell (l := [s0, s1]) b11 (j := 1) (by simp)
        have qc210 : Y20.cell? ⟨Z + 1 + 1, 0, none⟩ = some (.int .i64 s0) := BlkI.cell (l := [s0, s1]) c21 (j := 0) (by simp)
        have qc211 : Y20.cell? ⟨Z + 1 + 1, 1, none⟩ = some (.int .i64 s1) := BlkI.cell (l := [s0, s1]) c21 (j := 1) (by simp)
        have qb130 : Y20.cell? ⟨Bb13, 0, none⟩ = some (.int .i64 x0) := BlkI.cell (l := [x0, x1]) b13 (j := 0) (by simp)
        have qb131 : Y20.cell? ⟨Bb13, 1, none⟩ = some (.int .i64 x1) := BlkI.cell (l := [x0, x1]) b13 (j := 1) (by simp)
        go_wp2_with fail
        clear qb70 qb71 qb72 qb73 qc190 qc191 qc192 qc193 qb90 qb91 qb92 qb93 qc200 qc201 qc202 qc203 qb110 qb111 qc210 qc211 qb130 qb131
        refine (R6.out Y20).mono ?_
        rintro e Y21 ⟨rfl, hl⟩
        replace hB := bthen hB hl
        replace bx := bx.carry hl
        replace by' := by'.carry hl
        replace b7 := b7.carry hl
        replace b9 := b9.carry hl
        replace b11 := b11.carry hl
        replace b13 := b13.carry hl
        replace c19 := c19.carry hl
        replace c20 := c20.carry hl
        replace c21 := c21.carry hl
        clear hl
        go_wp2_with fail
        refine (awake_any Y21 (hw.carry hB) (hp.carry hB)).mono ?_
        rintro e Y22 ⟨rfl, hl⟩
        replace hB := bthen hB hl
        replace bx := bx.carry hl
        replace by' := by'.carry hl
        replace b7 := b7.carry hl
        replace b9 := b9.carry hl
        replace b11 := b11.carry hl
        replace b13 := b13.carry hl
        replace c19 := c19.carry hl
        replace c20 := c20.carry hl
        replace c21 := c21.carry hl
        clear hl
        go_wp2_with fail
        go_ret
        exact ⟨rfl, hB⟩
  · have z1 : (e1 == 0) = false := by rw [beq_eq_false_iff_ne]; exact h1
    obtain ⟨rfl, rfl, rfl, rfl⟩ : p0 = 0 ∧ p1 = 0 ∧ p2 = 0 ∧ p3 = 0 := by have := HP.out; rw [vOr, vOr, vOr, vOr, if_neg h1, if_neg h1, if_neg h1, if_neg h1] at this; exact this
    go_upto_region 13 with fail
    by_cases h2 : e2 = 0
    · subst h2
      obtain rfl : ex = 0 := HX.out.2 rfl
      obtain ⟨rfl, rfl, rfl, rfl⟩ : t0 = u0 ∧ t1 = u1 ∧ t2 = u2 ∧ t3 = u3 := HT.out
      have R4b := Lib.hid (R4.out (by trivial))
      clear R4
      have qbx0 : Y15.cell? ⟨w.heap.size, 0, none⟩ = some (.int .i64 x0) := BlkI.cell (l := [x0, x1, x2, x3]) bx (j := 0) (by simp)
      have qbx1 : Y15.cell? ⟨w.heap.size, 1, none⟩ = some (.int .i64 x1) := BlkI.cell (l := [x0, x1, x2, x3]) bx (j := 1) (by simp)
      have qbx2 : Y15.cell? ⟨w.heap.size, 2, none⟩ = some (.int .i64 x2) := BlkI.cell (l := [x0, x1, x2, x3]) bx (j := 2) (by simp)
      have qbx3 : Y15.cell? ⟨w.heap.size, 3, none⟩ = some (.int .i64 x3) := BlkI.cell (l := [x0, x1, x2, x3]) bx (j := 3) (by simp)
      go_upto_region 14 with fail
      go_wp2_with fail
      clear qbx0 qbx1 qbx2 qbx3
      refine (R4b.out Y15).mono ?_
      rintro e Y16 ⟨rfl, hl⟩
      replace hB := bthen hB hl
      replace bx := bx.carry hl
      replace by' := by'.carry hl
      replace b7 := b7.carry hl
      replace b9 := b9.carry hl
      replace b11 := b11.carry hl
      replace b13 := b13.carry hl
      replace c19 := c19.carry hl
      replace c20 := c20.carry hl
      replace c21 := c21.carry hl
      clear hl
      go_upto_region 15 with (refine wpList_storeA rfl _ _ _ rfl (Z + 1) [t0, t1, t2, t3] [0, 0, 0, 0] rfl rfl c20 rfl Tryz.infoCR ?_)
      obtain ⟨Y17, hY17⟩ : ∃ W, W = World.setRow Y16 (Z + 1) (ia [t0, t1, t2, t3]) := ⟨_, rfl⟩
      rw [← hY17]
      replace hB := below_rowA hB (by omega : w.heap.size ≤ Z + 1) (ia [t0, t1, t2, t3])
      rw [← hY17] at hB
      replace c20 := BlkI.setRowA c20 [t0, t1, t2, t3]
      rw [← hY17] at c20
      replace bx := BlkI.setRowO bx (B' := Z + 1) (by omega) (ia [t0, t1, t2, t3])
      rw [← hY17] at bx
      replace by' := BlkI.setRowO by' (B' := Z + 1) (by omega) (ia [t0, t1, t2, t3])
      rw [← hY17] at by'
      replace b7 := BlkI.setRowO b7 (B' := Z + 1) (by omega) (ia [t0, t1, t2, t3])
      rw [← hY17] at b7
      replace b9 := BlkI.setRowO b9 (B' := Z + 1) (by omega) (ia [t0, t1, t2, t3])
      rw [← hY17] at b9
      replace b11 := BlkI.setRowO b11 (B' := Z + 1) (by omega) (ia [t0, t1, t2, t3])
      rw [← hY17] at b11
      replace b13 := BlkI.setRowO b13 (B' := Z + 1) (by omega) (ia [t0, t1, t2, t3])
      rw [← hY17] at b13
      replace c19 := BlkI.setRowO c19 (B' := Z + 1) (by omega) (ia [t0, t1, t2, t3])
      rw [← hY17] at c19
      replace c21 := BlkI.setRowO c21 (B' := Z + 1) (by omega) (ia [t0, t1, t2, t3])
      rw [← hY17] at c21
      clear hY17
      obtain ⟨rfl, rfl⟩ : s0 = r0 ∧ s1 = r1 := HS.out
      have R5b := Lib.hid (R5.out (by trivial))
      clear R5
      have qbx0 : Y17.cell? ⟨w.heap.size, 0, none⟩ = some (.int .i64 x0) := BlkI.cell (l := [x0, x1, x2, x3]) bx (j := 0) (by simp)
      have qbx1 : Y17.cell? ⟨w.heap.size, 1, none⟩ = some (.int .i64 x1) := BlkI.cell (l := [x0, x1, x2, x3]) bx (j := 1) (by simp)
      have qbx2 : Y17.cell? ⟨w.heap.size, 2, none⟩ = some (.int .i64 x2) := BlkI.cell (l := [x0, x1, x2, x3]) bx (j := 2) (by simp)
      have qbx3 : Y17.cell? ⟨w.heap.size, 3, none⟩ = some (.int .i64 x3) := BlkI.cell (l := [x0, x1, x2, x3]) bx (j := 3) (by simp)
      go_upto_region 16 with fail
      go_wp2_with fail
      clear qbx0 qbx1 qbx2 qbx3
      refine (R5b.out Y17).mono ?_
      rintro e Y18 ⟨rfl, hl⟩
      replace hB := bthen hB hl
      replace bx := bx.carry hl
      replace by' := by'.carry hl
      replace b7 := b7.carry hl
      replace b9 := b9.carry hl
      replace b11 := b11.carry hl
      replace b13 := b13.carry hl
      replace c19 := c19.carry hl
      replace c20 := c20.carry hl
      replace c21 := c21.carry hl
      clear hl
      go_upto_region 17 with (refine wpList_storeA rfl _ _ _ rfl (Z + 1 + 1) [s0, s1] [0, 0] rfl rfl c21 rfl Tryz.infoRR ?_)
      obtain ⟨Y19, hY19⟩ : ∃ W, W = World.setRow Y18 (Z + 1 + 1) (ia [s0, s1]) := ⟨_, rfl⟩
      rw [← hY19]
      replace hB := below_rowA hB (by omega : w.heap.size ≤ Z + 1 + 1) (ia [s0, s1])
      rw [← hY19] at hB
      replace c21 := BlkI.setRowA c21 [s0, s1]
      rw [← hY19] at c21
      replace bx := BlkI.setRowO bx (B' := Z + 1 + 1) (by omega) (ia [s0, s1])
      rw [← hY19] at bx
      replace by' := BlkI.setRowO by' (B' := Z + 1 + 1) (by omega) (ia [s0, s1])
      rw [← hY19] at by'
      replace b7 := BlkI.setRowO b7 (B' := Z + 1 + 1) (by omega) (ia [s0, s1])
      rw [← hY19] at b7
      replace b9 := BlkI.setRowO b9 (B' := Z + 1 + 1) (by omega) (ia [s0, s1])
      rw [← hY19] at b9
      replace b11 := BlkI.setRowO b11 (B' := Z + 1 + 1) (by omega) (ia [s0, s1])
      rw [← hY19] at b11
      replace b13 := BlkI.setRowO b13 (B' := Z + 1 + 1) (by omega) (ia [s0, s1])
      rw [← hY19] at b13
      replace c19 := BlkI.setRowO c19 (B' := Z + 1 + 1) (by omega) (ia [s0, s1])
      rw [← hY19] at c19
      replace c20 := BlkI.setRowO c20 (B' := Z + 1 + 1) (by omega) (ia [s0, s1])
      rw [← hY19] at c20
      clear hY19
      have qb130 : Y19.cell? ⟨Bb13, 0, none⟩ = some (.int .i64 x0) := BlkI.cell (l := [x0, x1]) b13 (j := 0) (by simp)
      have qb131 : Y19.cell? ⟨Bb13, 1, none⟩ = some (.int .i64 x1) := BlkI.cell (l := [x0, x1]) b13 (j := 1) (by simp)
      go_wp2_with fail
      clear qb130 qb131
      refine (R6.out Y19).mono ?_
      rintro e Y20 ⟨rfl, hl⟩
      replace hB := bthen hB hl
      replace bx := bx.carry hl
      replace by' := by'.carry hl
      replace b7 := b7.carry hl
      replace b9 := b9.carry hl
      replace b11 := b11.carry hl
      replace b13 := b13.carry hl
      replace c19 := c19.carry hl
      replace c20 := c20.carry hl
      replace c21 := c21.carry hl
      clear hl
      by_cases h4 : e4 = 0
      · subst h4
        obtain rfl : g = sg := HG.out
        have R7b := Lib.hid (R7.out (by trivial))
        clear R7
        have qb130 : Y20.cell? ⟨Bb13, 0, none⟩ = some (.int .i64 x0) := BlkI.cell (l := [x0, x1]) b13 (j := 0) (by simp)
        have qb131 : Y20.cell? ⟨Bb13, 1, none⟩ = some (.int .i64 x1) := BlkI.cell (l := [x0, x1]) b13 (j := 1) (by simp)
        go_wp2_with fail
        clear qb130 qb131
        refine (R7b.out Y20).mono ?_
        rintro e Y21 ⟨rfl, hl⟩
        replace hB := bthen hB hl
        replace bx := bx.carry hl
        replace by' := by'.carry hl
        replace b7 := b7.carry hl
        replace b9 := b9.carry hl
        replace b11 := b11.carry hl
        replace b13 := b13.carry hl
        replace c19 := c19.carry hl
        replace c20 := c20.carry hl
        replace c21 := c21.carry hl
        clear hl
        have qb70 : Y21.cell? ⟨Bb7, 0, none⟩ = some (.int .i64 0) := BlkI.cell (l := [0, 0, 0, 0]) b7 (j := 0) (by simp)
        have qb71 : Y21.cell? ⟨Bb7, 1, none⟩ = some (.int .i64 0) := BlkI.cell (l := [0, 0, 0, 0]) b7 (j := 1) (by simp)
        have qb72 : Y21.cell? ⟨Bb7, 2, none⟩ = some (.int .i64 0) := BlkI.cell (l := [0, 0, 0, 0]) b7 (j := 2) (by simp)
        have qb73 : Y21.cell? ⟨Bb7, 3, none⟩ = some (.int .i64 0) := BlkI.cell (l := [0, 0, 0, 0]) b7 (j := 3) (by simp)
        have qc190 : Y21.cell? ⟨Z, 0, none⟩ = some (.int .i64 0) := BlkI.cell (l := [0, 0, 0, 0]) c19 (j := 0) (by simp)
        have qc191 : Y21.cell? ⟨Z, 1, none⟩ = some (.int .i64 0) := BlkI.cell (l := [0, 0, 0, 0]) c19 (j := 1) (by simp)
        have qc192 : Y21.cell? ⟨Z, 2, none⟩ = some (.int .i64 0) := BlkI.cell (l := [0, 0, 0, 0]) c19 (j := 2) (by simp)
        have qc193 : Y21.cell? ⟨Z, 3, none⟩ = some (.int .i64 0) := BlkI.cell (l := [0, 0, 0, 0]) c19 (j := 3) (by simp)
        have qb90 : Y21.cell? ⟨Bb9, 0, none⟩ = some (.int .i64 t0) := BlkI.cell (l := [t0, t1, t2, t3]) b9 (j := 0) (by simp)
        have qb91 : Y21.cell? ⟨Bb9, 1, none⟩ = some (.int .i64 t1) := BlkI.cell (l := [t0, t1, t2, t3]) b9 (j := 1) (by simp)
        have qb92 : Y21.cell? ⟨Bb9, 2, none⟩ = some (.int .i64 t2) := BlkI.cell (l := [t0, t1, t2, t3]) b9 (j := 2) (by simp)
        have qb93 : Y21.cell? ⟨Bb9, 3, none⟩ = some (.int .i64 t3) := BlkI.cell (l := [t0, t1, t2, t3]) b9 (j := 3) (by simp)
        have qc200 : Y21.cell? ⟨Z + 1, 0, none⟩ = some (.int .i64 t0) := BlkI.cell (l := [t0, t1, t2, t3]) c20 (j := 0) (by simp)
        have qc201 : Y21.cell? ⟨Z + 1, 1, none⟩ = some (.int .i64 t1) := BlkI.cell (l := [t0, t1, t2, t3]) c20 (j := 1) (by simp)
        have qc202 : Y21.cell? ⟨Z + 1, 2, none⟩ = some (.int .i64 t2) := BlkI.cell (l := [t0, t1, t2, t3]) c20 (j := 2) (by simp)
        have qc203 : Y21.cell? ⟨Z + 1, 3, none⟩ = some (.int .i64 t3) := BlkI.cell (l := [t0, t1, t2, t3]) c20 (j := 3) (by simp)
        have qb110 : Y21.cell? ⟨Bb11, 0, none⟩ = some (.int .i64 s0) := BlkI.cell (l := [s0, s1]) b11 (j := 0) (by simp)
        have qb111 : Y21.cell? ⟨Bb11, 1, none⟩ = some (.int .i64 s1) := BlkI.cell (l := [s0, s1]) b11 (j := 1) (by simp)
        have qc210 : Y21.cell? ⟨Z + 1 + 1, 0, none⟩ = some (.int .i64 s0) := BlkI.cell (l := [s0, s1]) c21 (j := 0) (by simp)
        have qc211 : Y21.cell? ⟨Z + 1 + 1, 1, none⟩ = some (.int .i64 s1) := BlkI.cell (l := [s0, s1]) c21 (j := 1) (by simp)
        have qb130 : Y21.cell? ⟨Bb13, 0, none⟩ = some (.int .i64 x0) := BlkI.cell (l := [x0, x1]) b13 (j := 0) (by simp)
        have qb131 : Y21.cell? ⟨Bb13, 1, none⟩ = some (.int .i64 x1) := BlkI.cell (l := [x0, x1]) b13 (j := 1) (by simp)
        go_wp2_with fail
        clear qb70 qb71 qb72 qb73 qc190 qc191 qc192 qc193 qb90 qb91 qb92 qb93 qc200 qc201 qc202 qc203 qb110 qb111 qc210 qc211 qb130 qb131
        refine (R6.out Y21).mono ?_
        rintro e Y22 ⟨rfl, hl⟩
        replace hB := bthen hB hl
        replace bx := bx.carry hl
        replace by' := by'.carry hl
        replace b7 := b7.carry hl
        replace b9 := b9.carry hl
        replace b11 := b11.carry hl
        replace b13 := b13.carry hl
        replace c19 := c19.carry hl
        replace c20 := c20.carry hl
        replace c21 := c21.carry hl
        clear hl
        go_wp2_with fail
        refine (awake_any Y22 (hw.carry hB) (hp.carry hB)).mono ?_
        rintro e Y23 ⟨rfl, hl⟩
        replace hB := bthen hB hl
        replace bx := bx.carry hl
        replace by' := by'.carry hl
        replace b7 := b7.carry hl
        replace b9 := b9.carry hl
        replace b11 := b11.carry hl
        replace b13 := b13.carry hl
        replace c19 := c19.carry hl
        replace c20 := c20.carry hl
        replace c21 := c21.carry hl
        clear hl
        go_wp2_with fail
        go_ret
        exact ⟨rfl, hB⟩
      · have z4 : (e4 == 0) = false := by rw [beq_eq_false_iff_ne]; exact h4
        obtain rfl : g = 0 := by have := HG.out; rw [vOr, if_neg h4] at this; exact this
        clear R7
        have qb70 : Y20.cell? ⟨Bb7, 0, none⟩ = some (.int .i64 0) := BlkI.cell (l := [0, 0, 0, 0]) b7 (j := 0) (by simp)
        have qb71 : Y20.cell? ⟨Bb7, 1, none⟩ = some (.int .i64 0) := BlkI.cell (l := [0, 0, 0, 0]) b7 (j := 1) (by simp)
        have qb72 : Y20.cell? ⟨Bb7, 2, none⟩ = some (.int .i64 0) := BlkI.cell (l := [0, 0, 0, 0]) b7 (j := 2) (by simp)
        have qb73 : Y20.cell? ⟨Bb7, 3, none⟩ = some (.int .i64 0) := BlkI.cell (l := [0, 0, 0, 0]) b7 (j := 3) (by simp)
        have qc190 : Y20.cell? ⟨Z, 0, none⟩ = some (.int .i64 0) := BlkI.cell (l := [0, 0, 0, 0]) c19 (j := 0) (by simp)
        have qc191 : Y20.cell? ⟨Z, 1, none⟩ = some (.int .i64 0) := BlkI.cell (l := [0, 0, 0, 0]) c19 (j := 1) (by simp)
        have qc192 : Y20.cell? ⟨Z, 2, none⟩ = some (.int .i64 0) := BlkI.cell (l := [0, 0, 0, 0]) c19 (j := 2) (by simp)
        have qc193 : Y20.cell? ⟨Z, 3, none⟩ = some (.int .i64 0) := BlkI.cell (l := [0, 0, 0, 0]) c19 (j := 3) (by simp)
        have qb90 : Y20.cell? ⟨Bb9, 0, none⟩ = some (.int .i64 t0) := BlkI.cell (l := [t0, t1, t2, t3]) b9 (j := 0) (by simp)
        have qb91 : Y20.cell? ⟨Bb9, 1, none⟩ = some (.int .i64 t1) := BlkI.cell (l := [t0, t1, t2, t3]) b9 (j := 1) (by simp)
        have qb92 : Y20.cell? ⟨Bb9, 2, none⟩ = some (.int .i64 t2) := BlkI.cell (l := [t0, t1, t2, t3]) b9 (j := 2) (by simp)
        have qb93 : Y20.cell? ⟨Bb9, 3, none⟩ = some (.int .i64 t3) := BlkI.cell (l := [t0, t1, t2, t3]) b9 (j := 3) (by simp)
        have qc200 : Y20.cell? ⟨Z + 1, 0, none⟩ = some (.int .i64 t0) := BlkI.cell (l := [t0, t1, t2, t3]) c20 (j := 0) (by simp)
        have qc201 : Y20.cell? ⟨Z + 1, 1, none⟩ = some (.int .i64 t1) := BlkI.cell (l := [t0, t1, t2, t3]) c20 (j := 1) (by simp)
        have qc202 : Y20.cell? ⟨Z + 1, 2, none⟩ = some (.int .i64 t2) := BlkI.cell (l := [t0, t1, t2, t3]) c20 (j := 2) (by simp)
        have qc203 : Y20.cell? ⟨Z + 1, 3, none⟩ = some (.int .i64 t3) := BlkI.cell (l := [t0, t1, t2, t3]) c20 (j := 3) (by simp)
        have qb110 : Y20.cell? ⟨Bb11, 0, none⟩ = some (.int .i64 s0) := BlkI.cell (l := [s0, s1]) b11 (j := 0) (by simp)
        have qb111 : Y20.cell? ⟨Bb11, 1, none⟩ = some (.int .i64 s1) := BlkI.cell (l := [s0, s1]) b11 (j := 1) (by simp)
        have qc210 : Y20.cell? ⟨Z + 1 + 1, 0, none⟩ = some (.int .i64 s0) := BlkI.cell (l := [s0, s1]) c21 (j := 0) (by simp)
        have qc211 : Y20.cell? ⟨Z + 1 + 1, 1, none⟩ = some (.int .i64 s1) := BlkI.cell (l := [s0, s1]) c21 (j := 1) (by simp)
        have qb130 : Y20.cell? ⟨Bb13, 0, none⟩ = some (.int .i64 x0) := BlkI.cell (l := [x0, x1]) b13 (j := 0) (by simp)
        have qb131 : Y20.cell? ⟨Bb13, 1, none⟩ = some (.int .i64 x1) := BlkI.cell (l := [x0, x1]) b13 (j := 1) (by simp)
        go_wp2_with fail
        clear qb70 qb71 qb72 qb73 qc190 qc191 qc192 qc193 qb90 qb91 qb92 qb93 qc200 qc201 qc202 qc203 qb110 qb111 qc210 qc211 qb130 qb131
        refine (R6.out Y20).mono ?_
        rintro e Y21 ⟨rfl, hl⟩
        replace hB := bthen hB hl
        replace bx := bx.carry hl
        replace by' := by'.carry hl
        replace b7 := b7.carry hl
        replace b9 := b9.carry hl
        replace b11 := b11.carry hl
        replace b13 := b13.carry hl
        replace c19 := c19.carry hl
        replace c20 := c20.carry hl
        replace c21 := c21.carry hl
        clear hl
        go_wp2_with fail
        refine (awake_any Y21 (hw.carry hB) (hp.carry hB)).mono ?_
        rintro e Y22 ⟨rfl, hl⟩
        replace hB := bthen hB hl
        replace bx := bx.carry hl
        replace by' := by'.carry hl
        replace b7 := b7.carry hl
        replace b9 := b9.carry hl
        replace b11 := b11.carry hl
        replace b13 := b13.carry hl
        replace c19 := c19.carry hl
        replace c20 := c20.carry hl
        replace c21 := c21.carry hl
        clear hl
        go_wp2_with fail
        go_ret
        exact ⟨rfl, hB⟩
    · have z2 : (e2 == 0) = false := by rw [beq_eq_false_iff_ne]; exact h2
      obtain ⟨rfl, rfl, rfl, rfl⟩ : t0 = 0 ∧ t1 = 0 ∧ t2 = 0 ∧ t3 = 0 := by have := HT.out; rw [vOr, vOr, vOr, vOr, if_neg h2, if_neg h2, if_neg h2, if_neg h2] at this; exact this
      clear R4
      go_upto_region 15 with fail
      by_cases h3 : ex = 0
      · subst h3
        obtain ⟨rfl, rfl⟩ : s0 = r0 ∧ s1 = r1 := HS.out
        have R5b := Lib.hid (R5.out (by trivial))
        clear R5
        have qbx0 : Y15.cell? ⟨w.heap.size, 0, none⟩ = some (.int .i64 x0) := BlkI.cell (l := [x0, x1, x2, x3]) bx (j := 0) (by simp)
        have qbx1 : Y15.cell? ⟨w.heap.size, 1, none⟩ = some (.int .i64 x1) := BlkI.cell (l := [x0, x1, x2, x3]) bx (j := 1) (by simp)
        have qbx2 : Y15.cell? ⟨w.heap.size, 2, none⟩ = some (.int .i64 x2) := BlkI.cell (l := [x0, x1, x2, x3]) bx (j := 2) (by simp)
        have qbx3 : Y15.cell? ⟨w.heap.size, 3, none⟩ = some (.int .i64 x3) := BlkI.cell (l := [x0, x1, x2, x3]) bx (j := 3) (by simp)
        go_upto_region 16 with fail
        go_wp2_with fail
        clear qbx0 qbx1 qbx2 qbx3
        refine (R5b.out Y15).mono ?_
        rintro e Y16 ⟨rfl, hl⟩
        replace hB := bthen hB hl
        replace bx := bx.carry hl
        replace by' := by'.carry hl
        replace b7 := b7.carry hl
        replace b9 := b9.carry hl
        replace b11 := b11.carry hl
        replace b13 := b13.carry hl
        replace c19 := c19.carry hl
        replace c20 := c20.carry hl
        replace c21 := c21.carry hl
        clear hl
        go_upto_region 17 with (refine wpList_storeA rfl _ _ _ rfl (Z + 1 + 1) [s0, s1] [0, 0] rfl rfl c21 rfl Tryz.infoRR ?_)
        obtain ⟨Y17, hY17⟩ : ∃ W, W = World.setRow Y16 (Z + 1 + 1) (ia [s0, s1]) := ⟨_, rfl⟩
        rw [← hY17]
        replace hB := below_rowA hB (by omega : w.heap.size ≤ Z + 1 + 1) (ia [s0, s1])
        rw [← hY17] at hB
        replace c21 := BlkI.setRowA c21 [s0, s1]
        rw [← hY17] at c21
        replace bx := BlkI.setRowO bx (B' := Z + 1 + 1) (by omega) (ia [s0, s1])
        rw [← hY17] at bx
        replace by' := BlkI.setRowO by' (B' := Z + 1 + 1) (by omega) (ia [s0, s1])
        rw [← hY17] at by'
        replace b7 := BlkI.setRowO b7 (B' := Z + 1 + 1) (by omega) (ia [s0, s1])
        rw [← hY17] at b7
        replace b9 := BlkI.setRowO b9 (B' := Z + 1 + 1) (by omega) (ia [s0, s1])
        rw [← hY17] at b9
        replace b11 := BlkI.setRowO b11 (B' := Z + 1 + 1) (by omega) (ia [s0, s1])
        rw [← hY17] at b11
        replace b13 := BlkI.setRowO b13 (B' := Z + 1 + 1) (by omega) (ia [s0, s1])
        rw [← hY17] at b13
        replace c19 := BlkI.setRowO c19 (B' := Z + 1 + 1) (by omega) (ia [s0, s1])
        rw [← hY17] at c19
        replace c20 := BlkI.setRowO c20 (B' := Z + 1 + 1) (by omega) (ia [s0, s1])
        rw [← hY17] at c20
        clear hY17
        have qb130 : Y17.cell? ⟨Bb13, 0, none⟩ = some (.int .i64 x0) := BlkI.cell (l := [x0, x1]) b13 (j := 0) (by simp)
        have qb131 : Y17.cell? ⟨Bb13, 1, none⟩ = some (.int .i64 x1) := BlkI.cell (l := [x0, x1]) b13 (j := 1) (by simp)
        go_wp2_with fail
        clear qb130 qb131
        refine (R6.out Y17).mono ?_
        rintro e Y18 ⟨rfl, hl⟩
        replace hB := bthen hB hl
        replace bx := bx.carry hl
        replace by' := by'.carry hl
        replace b7 := b7.carry hl
        replace b9 := b9.carry hl
        replace b11 := b11.carry hl
        replace b13 := b13.carry hl
        replace c19 := c19.carry hl
        replace c20 := c20.carry hl
        replace c21 := c21.carry hl
        clear hl
        by_cases h4 : e4 = 0
        · subst h4
          obtain rfl : g = sg := HG.out
          have R7b := Lib.hid (R7.out (by trivial))
          clear R7
          have qb130 : Y18.cell? ⟨Bb13, 0, none⟩ = some (.int .i64 x0) := BlkI.cell (l := [x0, x1]) b13 (j := 0) (by simp)
          have qb131 : Y18.cell? ⟨Bb13, 1, none⟩ = some (.int .i64 x1) := BlkI.cell (l := [x0, x1]) b13 (j := 1) (by simp)
          go_wp2_with fail
          clear qb130 qb131
          refine (R7b.out Y18).mono ?_
          rintro e Y19 ⟨rfl, hl⟩
          replace hB := bthen hB hl
          replace bx := bx.carry hl
          replace by' := by'.carry hl
          replace b7 := b7.carry hl
          replace b9 := b9.carry hl
          replace b11 := b11.carry hl
          replace b13 := b13.carry hl
          replace c19 := c19.carry hl
          replace c20 := c20.carry hl
          replace c21 := c21.carry hl
          clear hl
          have qb70 : Y19.cell? ⟨Bb7, 0, none⟩ = some (.int .i64 0) := BlkI.cell (l := [0, 0, 0, 0]) b7 (j := 0) (by simp)
          have qb71 : Y19.cell? ⟨Bb7, 1, none⟩ = some (.int .i64 0) := BlkI.cell (l := [0, 0, 0, 0]) b7 (j := 1) (by simp)
          have qb72 : Y19.cell? ⟨Bb7, 2, none⟩ = some (.int .i64 0) := BlkI.cell (l := [0, 0, 0, 0]) b7 (j := 2) (by simp)
          have qb73 : Y19.cell? ⟨Bb7, 3, none⟩ = some (.int .i64 0) := BlkI.cell (l := [0, 0, 0, 0]) b7 (j := 3) (by simp)
          have qc190 : Y19.cell? ⟨Z, 0, none⟩ = some (.int .i64 0) := BlkI.cell (l := [0, 0, 0, 0]) c19 (j := 0) (by simp)
          have qc191 : Y19.cell? ⟨Z, 1, none⟩ = some (.int .i64 0) := BlkI.cell (l := [0, 0, 0, 0]) c19 (j := 1) (by simp)
          have qc192 : Y19.cell? ⟨Z, 2, none⟩ = some (.int .i64 0) := BlkI.cell (l := [0, 0, 0, 0]) c19 (j := 2) (by simp)
          have qc193 : Y19.cell? ⟨Z, 3, none⟩ = some (.int .i64 0) := BlkI.cell (l := [0, 0, 0, 0]) c19 (j := 3) (by simp)
          have qb90 : Y19.cell? ⟨Bb9, 0, none⟩ = some (.int .i64 0) := BlkI.cell (l := [0, 0, 0, 0]) b9 (j := 0) (by simp)
          have qb91 : Y19.cell? ⟨Bb9, 1, none⟩ = some (.int .i64 0) := BlkI.cell (l := [0, 0, 0, 0]) b9 (j := 1) (by simp)
          have qb92 : Y19.cell? ⟨Bb9, 2, none⟩ = some (.int .i64 0) := BlkI.cell (l := [0, 0, 0, 0]) b9 (j := 2) (by simp)
          have qb93 : Y19.cell? ⟨Bb9, 3, none⟩ = some (.int .i64 0) := BlkI.cell (l := [0, 0, 0, 0]) b9 (j := 3) (by simp)
          have qc200 : Y19.cell? ⟨Z + 1, 0, none⟩ = some (.int .i64 0) := BlkI.cell (l := [0, 0, 0, 0]) c20 (j := 0) (by simp)
          have qc201 : Y19.cell? ⟨Z + 1, 1, none⟩ = some (.int .i64 0) := BlkI.cell (l := [0, 0, 0, 0]) c20 (j := 1) (by simp)
          have qc202 : Y19.cell? ⟨Z + 1, 2, none⟩ = some (.int .i64 0) := BlkI.cell (l := [0, 0, 0, 0]) c20 (j := 2) (by simp)
          have qc203 : Y19.cell? ⟨Z + 1, 3, none⟩ = some (.int .i64 0) := BlkI.cell (l := [0, 0, 0, 0]) c20 (j := 3) (by simp)
          have qb110 : Y19.cell? ⟨Bb11, 0, none⟩ = some (.int .i64 s0) := BlkI.cell (l := [s0, s1]) b11 (j := 0) (by simp)
          have qb111 : Y19.cell? ⟨Bb11, 1, none⟩ = some (.int .i64 s1) := BlkI.cell (l := [s0, s1]) b11 (j := 1) (by simp)
          have qc210 : Y19.cell? ⟨Z + 1 + 1, 0, none⟩ = some (.int .i64 s0) := BlkI.cell (l := [s0, s1]) c21 (j := 0) (by simp)
          have qc211 : Y19.cell? ⟨Z + 1 + 1, 1, none⟩ = some (.int .i64 s1) := BlkI.cell (l := [s0, s1]) c21 (j := 1) (by simp)
          have qb130 : Y19.cell? ⟨Bb13, 0, none⟩ = some (.int .i64 x0) := BlkI.cell (l := [x0, x1]) b13 (j := 0) (by simp)
          have qb131 : Y19.cell? ⟨Bb13, 1, none⟩ = some (.int .i64 x1) := BlkI.cell (l := [x0, x1]) b13 (j := 1) (by simp)
          go_wp2_with fail
          clear qb70 qb71 qb72 qb73 qc190 qc191 qc192 qc193 qb90 qb91 qb92 qb93 qc200 qc201 qc202 qc203 qb110 qb111 qc210 qc211 qb130 qb131
          refine (R6.out Y19).mono ?_
          rintro e Y20 ⟨rfl, hl⟩
          replace hB := bthen hB hl
          replace bx := bx.carry hl
          replace by' := by'.carry hl
          replace b7 := b7.carry hl
          replace b9 := b9.carry hl
          replace b11 := b11.carry hl
          replace b13 := b13.carry hl
          replace c19 := c19.carry hl
          replace c20 := c20.carry hl
          replace c21 := c21.carry hl
          clear hl
          go_wp2_with fail
          refine (awake_any Y20 (hw.carry hB) (hp.carry hB)).mono ?_
          rintro e Y21 ⟨rfl, hl⟩
          replace hB := bthen hB hl
          replace bx := bx.carry hl
          replace by' := by'.carry hl
          replace b7 := b7.carry hl
          replace b9 := b9.carry hl
          replace b11 := b11.carry hl
          replace b13 := b13.carry hl
          replace c19 := c19.carry hl
          replace c20 := c20.carry hl
          replace c21 := c21.carry hl
          clear hl
          go_wp2_with fail
          go_ret
          exact ⟨rfl, hB⟩
        · have z4 : (e4 == 0) = false := by rw [beq_eq_false_iff_ne]; exact h4
          obtain rfl : g = 0 := by have := HG.out; rw [vOr, if_neg h4] at this; exact this
          clear R7
          have qb70 : Y18.cell? ⟨Bb7, 0, none⟩ = some (.int .i64 0) := BlkI.cell (l := [0, 0, 0, 0]) b7 (j := 0) (by simp)
          have qb71 : Y18.cell? ⟨Bb7, 1, none⟩ = some (.int .i64 0) := BlkI.cell (l := [0, 0, 0, 0]) b7 (j := 1) (by simp)
          have qb72 : Y18.cell? ⟨Bb7, 2, none⟩ = some (.int .i64 0) := BlkI.cell (l := [0, 0, 0, 0]) b7 (j := 2) (by simp)
          have qb73 : Y18.cell? ⟨Bb7, 3, none⟩ = some (.int .i64 0) := BlkI.cell (l := [0, 0, 0, 0]) b7 (j := 3) (by simp)
          have qc190 : Y18.cell? ⟨Z, 0, none⟩ = some (.int .i64 0) := BlkI.cell (l := [0, 0, 0, 0]) c19 (j := 0) (by simp)
          have qc191 : Y18.cell? ⟨Z, 1, none⟩ = some (.int .i64 0) := BlkI.cell (l := [0, 0, 0, 0]) c19 (j := 1) (by simp)
          have qc192 : Y18.cell? ⟨Z, 2, none⟩ = some (.int .i64 0) := BlkI.cell (l := [0, 0, 0, 0]) c19 (j := 2) (by simp)
          have qc193 : Y18.cell? ⟨Z, 3, none⟩ = some (.int .i64 0) := BlkI.cell (l := [0, 0, 0, 0]) c19 (j := 3) (by simp)
          have qb90 : Y18.cell? ⟨Bb9, 0, none⟩ = some (.int .i64 0) := BlkI.cell (l := [0, 0, 0, 0]) b9 (j := 0) (by simp)
          have qb91 : Y18.cell? ⟨Bb9, 1, none⟩ = some (.int .i64 0) := BlkI.cell (l := [0, 0, 0, 0]) b9 (j := 1) (by simp)
          have qb92 : Y18.cell? ⟨Bb9, 2, none⟩ = some (.int .i64 0) := BlkI.cell (l := [0, 0, 0, 0]) b9 (j := 2) (by simp)
          have qb93 : Y18.cell? ⟨Bb9, 3, none⟩ = some (.int .i64 0) := BlkI.cell (l := [0, 0, 0, 0]) b9 (j := 3) (by simp)
          have qc200 : Y18.cell? ⟨Z + 1, 0, none⟩ = some (.int .i64 0) := BlkI.cell (l := [0, 0, 0, 0]) c20 (j := 0) (by simp)
          have qc201 : Y18.cell? ⟨Z + 1, 1, none⟩ = some (.int .i64 0) := BlkI.cell (l := [0, 0, 0, 0]) c20 (j := 1) (by simp)
          have qc202 : Y18.cell? ⟨Z + 1, 2, none⟩ = some (.int .i64 0) := BlkI.cell (l := [0, 0, 0, 0]) c20 (j := 2) (by simp)
          have qc203 : Y18.cell? ⟨Z + 1, 3, none⟩ = some (.int .i64 0) := BlkI.cell (l := [0, 0, 0, 0]) c20 (j := 3) (by simp)
          have qb110 : Y18.cell? ⟨Bb11, 0, none⟩ = some (.int .i64 s0) := BlkI.cell (l := [s0, s1]) b11 (j := 0) (by simp)
          have qb111 : Y18.cell? ⟨Bb11, 1, none⟩ = some (.int .i64 s1) := BlkI.cell (l := [s0, s1]) b11 (j := 1) (by simp)
          have qc210 : Y18.cell? ⟨Z + 1 + 1, 0, none⟩ = some (.int .i64 s0) := BlkI.cell (l := [s0, s1]) c21 (j := 0) (by simp)
          have qc211 : Y18.cell? ⟨Z + 1 + 1, 1, none⟩ = some (.int .i64 s1) := BlkI.cell (l := [s0, s1]) c21 (j := 1) (by simp)
          have qb130 : Y18.cell? ⟨Bb13, 0, none⟩ = some (.int .i64 x0) := BlkI.cell (l := [x0, x1]) b13 (j := 0) (by simp)
          have qb131 : Y18.cell? ⟨Bb13, 1, none⟩ = some (.int .i64 x1) := BlkI.cell (l := [x0, x1]) b13 (j := 1) (by simp)
          go_wp2_with fail
          clear qb70 qb71 qb72 qb73 qc190 qc191 qc192 qc193 qb90 qb91 qb92 qb93 qc200 qc201 qc202 qc203 qb110 qb111 qc210 qc211 qb130 qb131
          refine (R6.out Y18).mono ?_
          rintro e Y19 ⟨rfl, hl⟩
          replace hB := bthen hB hl
          replace bx := bx.carry hl
          replace by' := by'.carry hl
          replace b7 := b7.carry hl
          replace b9 := b9.carry hl
          replace b11 := b11.carry hl
          replace b13 := b13.carry hl
          replace c19 := c19.carry hl
          replace c20 := c20.carry hl
          replace c21 := c21.carry hl
          clear hl
          go_wp2_with fail
          refine (awake_any Y19 (hw.carry hB) (hp.carry hB)).mono ?_
          rintro e Y20 ⟨rfl, hl⟩
          replace hB := bthen hB hl
          replace bx := bx.carry hl
          replace by' := by'.carry hl
          replace b7 := b7.carry hl
          replace b9 := b9.carry hl
          replace b11 := b11.carry hl
          replace b13 := b13.carry hl
          replace c19 := c19.carry hl
          replace c20 := c20.carry hl
          replace c21 := c21.carry hl
          clear hl
          go_wp2_with fail
          go_ret
          exact ⟨rfl, hB⟩
      · have z3 : (ex == 0) = false := by rw [beq_eq_false_iff_ne]; exact h3
        obtain ⟨rfl, rfl⟩ : s0 = 0 ∧ s1 = 0 := by have := HS.out; rw [vOr, vOr, if_neg h3, if_neg h3] at this; exact this
        clear R5
        go_upto_region 17 with fail
        have qb130 : Y15.cell? ⟨Bb13, 0, none⟩ = some (.int .i64 x0) := BlkI.cell (l := [x0, x1]) b13 (j := 0) (by simp)
        have qb131 : Y15.cell? ⟨Bb13, 1, none⟩ = some (.int .i64 x1) := BlkI.cell (l := [x0, x1]) b13 (j := 1) (by simp)
        go_wp2_with fail
        clear qb130 qb131
        refine (R6.out Y15).mono ?_
        rintro e Y16 ⟨rfl, hl⟩
        replace hB := bthen hB hl
        replace bx := bx.carry hl
        replace by' := by'.carry hl
        replace b7 := b7.carry hl
        replace b9 := b9.carry hl
        replace b11 := b11.carry hl
        replace b13 := b13.carry hl
        replace c19 := c19.carry hl
        replace c20 := c20.carry hl
        replace c21 := c21.carry hl
        clear hl
        by_cases h4 : e4 = 0
        · subst h4
          obtain rfl : g = sg := HG.out
          have R7b := Lib.hid (R7.out (by trivial))
          clear R7
          have qb130 : Y16.cell? ⟨Bb13, 0, none⟩ = some (.int .i64 x0) := BlkI.cell (l := [x0, x1]) b13 (j := 0) (by simp)
          have qb131 : Y16.cell? ⟨Bb13, 1, none⟩ = some (.int .i64 x1) := BlkI.cell (l := [x0, x1]) b13 (j := 1) (by simp)
          go_wp2_with fail
          clear qb130 qb131
          refine (R7b.out Y16).mono ?_
          rintro e Y17 ⟨rfl, hl⟩
          replace hB := bthen hB hl
          replace bx := bx.carry hl
          replace by' := by'.carry hl
          replace b7 := b7.carry hl
          replace b9 := b9.carry hl
          replace b11 := b11.carry hl
          replace b13 := b13.carry hl
          replace c19 := c19.carry hl
          replace c20 := c20.carry hl
          replace c21 := c21.carry hl
          clear hl
          have qb70 : Y17.cell? ⟨Bb7, 0, none⟩ = some (.int .i64 0) := BlkI.cell (l := [0, 0, 0, 0]) b7 (j := 0) (by simp)
          have qb71 : Y17.cell? ⟨Bb7, 1, none⟩ = some (.int .i64 0) := BlkI.cell (l := [0, 0, 0, 0]) b7 (j := 1) (by simp)
          have qb72 : Y17.cell? ⟨Bb7, 2, none⟩ = some (.int .i64 0) := BlkI.cell (l := [0, 0, 0, 0]) b7 (j := 2) (by simp)
          have qb73 : Y17.cell? ⟨Bb7, 3, none⟩ = some (.int .i64 0) := BlkI.cell (l := [0, 0, 0, 0]) b7 (j := 3) (by simp)
          have qc190 : Y17.cell? ⟨Z, 0, none⟩ = some (.int .i64 0) := BlkI.cell (l := [0, 0, 0, 0]) c19 (j := 0) (by simp)
          have qc191 : Y17.cell? ⟨Z, 1, none⟩ = some (.int .i64 0) := BlkI.cell (l := [0, 0, 0, 0]) c19 (j := 1) (by simp)
          have qc192 : Y17.cell? ⟨Z, 2, none⟩ = some (.int .i64 0) := BlkI.cell (l := [0, 0, 0, 0]) c19 (j := 2) (by simp)
          have qc193 : Y17.cell? ⟨Z, 3, none⟩ = some (.int .i64 0) := BlkI.cell (l := [0, 0, 0, 0]) c19 (j := 3) (by simp)
          have qb90 : Y17.cell? ⟨Bb9, 0, none⟩ = some (.int .i64 0) := BlkI.cell (l := [0, 0, 0, 0]) b9 (j := 0) (by simp)
          have qb91 : Y17.cell? ⟨Bb9, 1, none⟩ = some (.int .i64 0) := BlkI.cell (l := [0, 0, 0, 0]) b9 (j := 1) (by simp)
          have qb92 : Y17.cell? ⟨Bb9, 2, none⟩ = some (.int .i64 0) := BlkI.cell (l := [0, 0, 0, 0]) b9 (j := 2) (by simp)
          have qb93 : Y17.cell? ⟨Bb9, 3, none⟩ = some (.int .i64 0) := BlkI.cell (l := [0, 0, 0, 0]) b9 (j := 3) (by simp)
          have qc200 : Y17.cell? ⟨Z + 1, 0, none⟩ = some (.int .i64 0) := BlkI.cell (l := [0, 0, 0, 0]) c20 (j := 0) (by simp)
          have qc201 : Y17.cell? ⟨Z + 1, 1, none⟩ = some (.int .i64 0) := BlkI.cell (l := [0, 0, 0, 0]) c20 (j := 1) (by simp)
          have qc202 : Y17.cell? ⟨Z + 1, 2, none⟩ = some (.int .i64 0) := BlkI.cell (l := [0, 0, 0, 0]) c20 (j := 2) (by simp)
          have qc203 : Y17.cell? ⟨Z + 1, 3, none⟩ = some (.int .i64 0) := BlkI.cell (l := [0, 0, 0, 0]) c20 (j := 3) (by simp)
          have qb110 : Y17.cell? ⟨Bb11, 0, none⟩ = some (.int .i64 0) := BlkI.cell (l := [0, 0]) b11 (j := 0) (by simp)
          have qb111 : Y17.cell? ⟨Bb11, 1, none⟩ = some (.int .i64 0) := BlkI.cell (l := [0, 0]) b11 (j := 1) (by simp)
          have qc210 : Y17.cell? ⟨Z + 1 + 1, 0, none⟩ = some (.int .i64 0) := BlkI.cell (l := [0, 0]) c21 (j := 0) (by simp)
          have qc211 : Y17.cell? ⟨Z + 1 + 1, 1, none⟩ = some (.int .i64 0) := BlkI.cell (l := [0, 0]) c21 (j := 1) (by simp)
          have qb130 : Y17.cell? ⟨Bb13, 0, none⟩ = some (.int .i64 x0) := BlkI.cell (l := [x0, x1]) b13 (j := 0) (by simp)
          have qb131 : Y17.cell? ⟨Bb13, 1, none⟩ = some (.int .i64 x1) := BlkI.cell (l := [x0, x1]) b13 (j := 1) (by simp)
          go_wp2_with fail
          clear qb70 qb71 qb72 qb73 qc190 qc191 qc192 qc193 qb90 qb91 qb92 qb93 qc200 qc201 qc202 qc203 qb110 qb111 qc210 qc211 qb130 qb131
          refine (R6.out Y17).mono ?_
          rintro e Y18 ⟨rfl, hl⟩
          replace hB := bthen hB hl
          replace bx := bx.carry hl
          replace by' := by'.carry hl
          replace b7 := b7.carry hl
          replace b9 := b9.carry hl
          replace b11 := b11.carry hl
          replace b13 := b13.carry hl
          replace c19 := c19.carry hl
          replace c20 := c20.carry hl
          replace c21 := c21.carry hl
          clear hl
          go_wp2_with fail
          refine (awake_any Y18 (hw.carry hB) (hp.carry hB)).mono ?_
          rintro e Y19 ⟨rfl, hl⟩
          replace hB := bthen hB hl
          replace bx := bx.carry hl
          replace by' := by'.carry hl
          replace b7 := b7.carry hl
          replace b9 := b9.carry hl
          replace b11 := b11.carry hl
          replace b13 := b13.carry hl
          replace c19 := c19.carry hl
          replace c20 := c20.carry hl
          replace c21 := c21.carry hl
          clear hl
          go_wp2_with fail
          go_ret
          exact ⟨rfl, hB⟩
        · have z4 : (e4 == 0) = false := by rw [beq_eq_false_iff_ne]; exact h4
          obtain rfl : g = 0 := by have := HG.out; rw [vOr, if_neg h4] at this; exact this
          clear R7
          have qb70 : Y16.cell? ⟨Bb7, 0, none⟩ = some (.int .i64 0) := BlkI.cell (l := [0, 0, 0, 0]) b7 (j := 0) (by simp)
          have qb71 : Y16.cell? ⟨Bb7, 1, none⟩ = some (.int .i64 0) := BlkI.cell (l := [0, 0, 0, 0]) b7 (j := 1) (by simp)
          have qb72 : Y16.cell? ⟨Bb7, 2, none⟩ = some (.int .i64 0) := BlkI.cell (l := [0, 0, 0, 0]) b7 (j := 2) (by simp)
          have qb73 : Y16.cell? ⟨Bb7, 3, none⟩ = some (.int .i64 0) := BlkI.cell (l := [0, 0, 0, 0]) b7 (j := 3) (by simp)
          have qc190 : Y16.cell? ⟨Z, 0, none⟩ = some (.int .i64 0) := BlkI.cell (l := [0, 0, 0, 0]) c19 (j := 0) (by simp)
          have qc191 : Y16.cell? ⟨Z, 1, none⟩ = some (.int .i64 0) := BlkI.cell (l := [0, 0, 0, 0]) c19 (j := 1) (by simp)
          have qc192 : Y16.cell? ⟨Z, 2, none⟩ = some (.int .i64 0) := BlkI.cell (l := [0, 0, 0, 0]) c19 (j := 2) (by simp)
          have qc193 : Y16.cell? ⟨Z, 3, none⟩ = some (.int .i64 0) := BlkI.cell (l := [0, 0, 0, 0]) c19 (j := 3) (by simp)
          have qb90 : Y16.cell? ⟨Bb9, 0, none⟩ = some (.int .i64 0) := BlkI.cell (l := [0, 0, 0, 0]) b9 (j := 0) (by simp)
          have qb91 : Y16.cell? ⟨Bb9, 1, none⟩ = some (.int .i64 0) := BlkI.cell (l := [0, 0, 0, 0]) b9 (j := 1) (by simp)
          have qb92 : Y16.cell? ⟨Bb9, 2, none⟩ = some (.int .i64 0) := BlkI.cell (l := [0, 0, 0, 0]) b9 (j := 2) (by simp)
          have qb93 : Y16.cell? ⟨Bb9, 3, none⟩ = some (.int .i64 0) := BlkI.cell (l := [0, 0, 0, 0]) b9 (j := 3) (by simp)
          have qc200 : Y16.cell? ⟨Z + 1, 0, none⟩ = some (.int .i64 0) := BlkI.cell (l := [0, 0, 0, 0]) c20 (j := 0) (by simp)
          have qc201 : Y16.cell? ⟨Z + 1, 1, none⟩ = some (.int .i64 0) := BlkI.cell (l := [0, 0, 0, 0]) c20 (j := 1) (by simp)
          have qc202 : Y16.cell? ⟨Z + 1, 2, none⟩ = some (.int .i64 0) := BlkI.cell (l := [0, 0, 0, 0]) c20 (j := 2) (by simp)
          have qc203 : Y16.cell? ⟨Z + 1, 3, none⟩ = some (.int .i64 0) := BlkI.cell (l := [0, 0, 0, 0]) c20 (j := 3) (by simp)
          have qb110 : Y16.cell? ⟨Bb11, 0, none⟩ = some (.int .i64 0) := BlkI.cell (l := [0, 0]) b11 (j := 0) (by simp)
          have qb111 : Y16.cell? ⟨Bb11, 1, none⟩ = some (.int .i64 0) := BlkI.cell (l := [0, 0]) b11 (j := 1) (by simp)
          have qc210 : Y16.cell? ⟨Z + 1 + 1, 0, none⟩ = some (.int .i64 0) := BlkI.cell (l := [0, 0]) c21 (j := 0) (by simp)
          have qc211 : Y16.cell? ⟨Z + 1 + 1, 1, none⟩ = some (.int .i64 0) := BlkI.cell (l := [0, 0]) c21 (j := 1) (by simp)
          have qb130 : Y16.cell? ⟨Bb13, 0, none⟩ = some (.int .i64 x0) := BlkI.cell (l := [x0, x1]) b13 (j := 0) (by simp)
          have qb131 : Y16.cell? ⟨Bb13, 1, none⟩ = some (.int .i64 x1) := BlkI.cell (l := [x0, x1]) b13 (j := 1) (by simp)
          go_wp2_with fail
          clear qb70 qb71 qb72 qb73 qc190 qc191 qc192 qc193 qb90 qb91 qb92 qb93 qc200 qc201 qc202 qc203 qb110 qb111 qc210 qc211 qb130 qb131
          refine (R6.out Y16).mono ?_
          rintro e Y17 ⟨rfl, hl⟩
          replace hB := bthen hB hl
          replace bx := bx.carry hl
          replace by' := by'.carry hl
          replace b7 := b7.carry hl
          replace b9 := b9.carry hl
          replace b11 := b11.carry hl
          replace b13 := b13.carry hl
          replace c19 := c19.carry hl
          replace c20 := c20.carry hl
          replace c21 := c21.carry hl
          clear hl
          go_wp2_with fail
          refine (awake_any Y17 (hw.carry hB) (hp.carry hB)).mono ?_
          rintro e Y18 ⟨rfl, hl⟩
          replace hB := bthen hB hl
          replace bx := bx.carry hl
          replace by' := by'.carry hl
          replace b7 := b7.carry hl
          replace b9 := b9.carry hl
          replace b11 := b11.carry hl
          replace b13 := b13.carry hl
          replace c19 := c19.carry hl
          replace c20 := c20.carry hl
          replace c21 := c21.carry hl
          clear hl
          go_wp2_with fail
          go_ret
          exact ⟨rfl, hB⟩
end Go.Proofs.YtfkemdapmoponaaGreatDoor

/- The package harmonic: the edges that separate; Edge. -/
import Derived.Test.YtfeajpkjjlddlaaGreatDoorHpA
namespace Go.Proofs.YtfeajpkjjlddlaaGreatDoor
set_option linter.unusedSimpArgs false
set_option linter.unusedVariables false
open Go.RowKit

/-- an edge separates. -/
def sepB (x : I4) (ls : List (Int × Int)) (h : Int) : Bool := bif tunedB ls h then true else negB (sideE x (0, negI (susR ls h).1) (susR ls h).2)
set_option maxRecDepth 100000 in
set_option maxHeartbeats 2000000 in
theorem separates_any (x : I4) (v : Value) (ls : List (Int × Int)) (h : Int) (w : World) (hv : Pairs w v ls) (hl : ls.length ≤ 1000000) (hS : tunedB ls h = false → SusOk ls h) :
    Calls Tryz.prog 79 #[.agg #[.int .i64 x.1, .int .i64 x.2.1, .int .i64 x.2.2.1, .int .i64 x.2.2.2], .agg #[v], .int .i64 h] w fun e w' => e = .returned (.bool (sepB x ls h)) ∧ Below w.heap.size w w' := by
  obtain ⟨r, hr⟩ : ∃ r, r = sepB x ls h := ⟨_, rfl⟩
  rw [← hr]
  rw [sepB] at hr
  have TT := Lib.hid (fun W hP => tuned_any v ls h W hP hl)
  have TP := Lib.hid (fun W hP hS => point_any v ls h W hP hl hS)
  generalize tunedB ls h = t at TT hr hS
  generalize susR ls h = s at TP hr
  obtain ⟨n, d⟩ := s
  simp only at TP hr
  generalize negI n = m at TP hr
  have TO := Lib.hid (fun W => side_any x (0, m) d W)
  generalize sideE x (0, m) d = o at TO hr
  obtain ⟨x0, x1, x2, x3⟩ := x
  simp only at TO ⊢
  have HR := Lib.hid hr
  have HV := Lib.hid hv
  obtain ⟨a, cp, rfl, _, _⟩ := id hv
  clear hv hr
  go_enter Tryz.func79, Tryz.ntmps79
  go_upto_region 1 with fail
  obtain ⟨W0, hW0⟩ : ∃ v, v = World.alloc w (Obj.cells #[.int .i64 x0, .int .i64 x1, .int .i64 x2, .int .i64 x3] 135) := ⟨_, rfl⟩
  have kW0 : Below w.heap.size w W0 := by rw [hW0]; exact below_new _ _
  have iW0 : Blk W0 (w.heap.size) 135 [.int .i64 x0, .int .i64 x1, .int .i64 x2, .int .i64 x3] := by rw [hW0]; exact Blk.new _ _ _
  have sW0 : W0.heap.size = w.heap.size + 1 := by rw [hW0]; simp
  rw [← hW0]
  clear hW0
  obtain ⟨W1, hW1⟩ : ∃ v, v = World.alloc W0 (Obj.cells #[.slice a ls.length cp] 75) := ⟨_, rfl⟩
  have kW1 : Below W0.heap.size W0 W1 := by rw [hW1]; exact below_new _ _
  have iW1 : Blk W1 (w.heap.size + 1) 75 [.slice a ls.length cp] := by rw [hW1, ← sW0]; exact Blk.new _ _ _
  have sW1 : W1.heap.size = w.heap.size + 1 + 1 := by rw [hW1]; simp [sW0]
  rw [← hW1]
  clear hW1
  have i0 := iW0.carry kW1
  have i1 := iW1
  have hB := bthen kW0 kW1
  clear iW0 iW1 kW0 kW1 sW0 sW1
  have a0 := i1.cell (j := 0) (v := .slice a ls.length cp) rfl
  have e0 := i0.cell (j := 0) (v := .int .i64 x0) rfl
  have e1 := i0.cell (j := 1) (v := .int .i64 x1) rfl
  have e2 := i0.cell (j := 2) (v := .int .i64 x2) rfl
  have e3 := i0.cell (j := 3) (v := .int .i64 x3) rfl
  go_wp2_with fail
  refine (TT.out W1 (HV.out.carry hB)).mono ?_
  rintro e w3 ⟨rfl, hb⟩
  have a0 := cellb a0 hb
  have e0 := cellb e0 hb
  have e1 := cellb e1 hb
  have e2 := cellb e2 hb
  have e3 := cellb e3 hb
  replace hB := bthen hB hb
  clear hb i1 i0
  cases t
  · have TP2 := Lib.hid (TP.out w3 (HV.out.carry hB) (hS rfl))
    clear hS TP
    go_wp2_with fail
    refine TP2.out.mono ?_
    rintro e w4 ⟨rfl, hb⟩
    replace hB := bthen hB hb
    have e0 := cellb e0 hb
    have e1 := cellb e1 hb
    have e2 := cellb e2 hb
    have e3 := cellb e3 hb
    clear hb a0
    go_upto_region 4 with (refine wpList_storeA rfl _ _ _ rfl w4.heap.size [0, m] (List.replicate 2 0) rfl rfl (BlkI.new w4 86 (List.replicate 2 0)) rfl Tryz.infoGauss ?_)
    obtain ⟨W5, hW5⟩ : ∃ v, v = World.setRow (World.alloc w4 (Obj.cells #[.int .i64 0, .int .i64 0] 86)) w4.heap.size (ia ([0, m])) := ⟨_, rfl⟩
    have kW5 : Below w4.heap.size w4 W5 := by rw [hW5]; exact zrow_below _ _ _ _
    have iW5 : BlkI W5 w4.heap.size 86 ([0, m]) := by rw [hW5]; exact zrow_blk w4 _ (List.replicate 2 0) _
    rw [← hW5]
    clear hW5
    replace hB := bthen hB kW5
    have c0 : W5.cell? ⟨w4.heap.size, 0, none⟩ = some (.int .i64 0) := BlkI.cell iW5 (j := 0) (by simp)
    have c1 : W5.cell? ⟨w4.heap.size, 1, none⟩ = some (.int .i64 m) := BlkI.cell iW5 (j := 1) (by simp)
    have e0 := cellb e0 kW5
    have e1 := cellb e1 kW5
    have e2 := cellb e2 kW5
    have e3 := cellb e3 kW5
    clear iW5 kW5
    have TO2 := Lib.hid (TO.out W5)
    go_wp2_with fail
    refine TO2.out.mono ?_
    rintro e w6 ⟨rfl, hb⟩
    go_wp2
    go_ret
    exact ⟨ret_bool HR.out.symm, bthen hB hb⟩
  · clear hS TP
    go_wp2
    go_ret
    exact ⟨ret_bool HR.out.symm, hB⟩

theorem Tryz.enterEdge1 (args : Array Value) (w : World) : Sem.run Tryz.prog (callFunc 78 args) w = .ok (.enter 78 args) w :=
  MuLone.run_callFunc_enter Tryz.func78 (by kernel_rfl) rfl args w
set_option maxRecDepth 100000 in
set_option maxHeartbeats 1000000 in
theorem edge1_any (x : I4) (v : Value) (ls : List (Int × Int)) (h : Int) (B D : Nat) (w : World) (hv : Pairs w v ls) (hl : ls.length ≤ 1000000) (hS : tunedB ls h = false → SusOk ls h) (hb : Blk w B 75 [v]) (hd : w.cell? ⟨D, 0, none⟩ = some (.int .i64 h)) :
    Calls Tryz.prog 78 #[.agg #[.int .i64 x.1, .int .i64 x.2.1, .int .i64 x.2.2.1, .int .i64 x.2.2.2], .pointer (some ⟨B, 0, none⟩), .pointer (some ⟨D, 0, none⟩)] w fun e w' => e = .returned (.bool (sepB x ls h)) ∧ Below w.heap.size w w' := by
  have TS := Lib.hid (fun W hP => separates_any x v ls h W hP hl hS)
  generalize sepB x ls h = s at TS ⊢
  obtain ⟨x0, x1, x2, x3⟩ := x
  simp only at TS ⊢
  have b0 := hb.cell (j := 0) (v := v) rfl
  have HV := Lib.hid hv
  obtain ⟨a, cp, rfl, _, _⟩ := id hv
  clear hb hv hS
  go_enter Tryz.func78, Tryz.ntmps78
  go_upto_region 1 with fail
  obtain ⟨W1, hW1⟩ : ∃ v, v = World.alloc w (Obj.cells #[.int .i64 x0, .int .i64 x1, .int .i64 x2, .int .i64 x3] 135) := ⟨_, rfl⟩
  have kW1 : Below w.heap.size w W1 := by rw [hW1]; exact below_new _ _
  have iW1 : Blk W1 (w.heap.size) 135 [.int .i64 x0, .int .i64 x1, .int .i64 x2, .int .i64 x3] := by rw [hW1]; exact Blk.new _ _ _
  have sW1 : W1.heap.size = w.heap.size + 1 := by rw [hW1]; simp
  rw [← hW1]
  clear hW1
  have a0 := iW1.cell (j := 0) (v := .int .i64 x0) rfl
  have a1 := iW1.cell (j := 1) (v := .int .i64 x1) rfl
  have a2 := iW1.cell (j := 2) (v := .int .i64 x2) rfl
  have a3 := iW1.cell (j := 3) (v := .int .i64 x3) rfl
  have b0 := cellb b0 kW1
  have hd := cellb hd kW1
  go_wp2_with fail
  refine (TS.out W1 (HV.out.carry kW1)).mono ?_
  rintro e w2 ⟨rfl, hl⟩
  go_wp2
  go_ret
  exact ⟨rfl, bthen kW1 hl⟩

def edgL (ls l : List (Int × Int)) (h : Int) : Int := findX (fun x => sepB x ls h) (edgesL l)
/-- what Edge returns. -/
def edgR (ls l : List (Int × Int)) (h : Int) : Int × Int := bif meeE ls l h == 0 then (bif negB (edgL ls l h) then (0, 7) else (edgL ls l h, 0)) else (0, meeE ls l h)
set_option maxRecDepth 100000 in
set_option maxHeartbeats 1000000 in
theorem Edge_any (v u : Value) (ls l : List (Int × Int)) (h : Int) (w : World) (hv : Pairs w v ls) (hl : ls.length ≤ 1000000) (hu : Pairs w u l) (hlu : l.length ≤ 1000000) :
    Calls Tryz.prog 33 #[.agg #[v], u, .int .i64 h] w fun e w' => e = .returned (.tuple #[.int .i64 (edgR ls l h).1, .int .i64 (edgR ls l h).2]) ∧ Below w.heap.size w w' := by
  obtain ⟨r, hr⟩ : ∃ r, r = edgR ls l h := ⟨_, rfl⟩
  rw [← hr]
  rw [edgR] at hr
  have hso : meeE ls l h = 0 → tunedB ls h = false → SusOk ls h := fun he ht => by
    obtain ⟨h1, _, h3⟩ := meeE_zero he
    exact susOk_of h1 (by omega) ht
  have TC := Lib.hid (fun W hP hQ => checkMeeting_any v u ls l h W hP hl hQ hlu)
  have TE := Lib.hid (fun W hQ => edges_any u l W hQ hlu)
  have TI := Lib.hid (fun (B D : Nat) (W : World) (u2 : Value) (hq : Quads W u2 (edgesL l)) (hP : Pairs W v ls) (he : meeE ls l h = 0) (hb : Blk W B 75 [v]) (hd : W.cell? ⟨D, 0, none⟩ = some (.int .i64 h)) =>
    IndexFuncE_any 78 #[.pointer (some ⟨B, 0, none⟩), .pointer (some ⟨D, 0, none⟩)] Tryz.enterEdge1 (fun x => sepB x ls h) u2 (edgesL l) W (by rw [edgesL, upto_length]; omega) hq (fun x _ w1 hb1 => edge1_any x v ls h _ _ w1 (hP.carry hb1) hl (hso he) (hb.carry hb1) (cellb hd hb1)))
  clear hso
  rw [edgL] at hr
  generalize findX (fun x => sepB x ls h) (edgesL l) = k at TI hr
  generalize meeE ls l h = E at TC TI hr
  have HR := Lib.hid hr
  have HV := Lib.hid hv
  have HU := Lib.hid hu
  obtain ⟨a, cp, rfl, _, _⟩ := id hv
  obtain ⟨a2, cp2, rfl, _, _⟩ := id hu
  clear hv hu hr
  go_enter Tryz.func33, Tryz.ntmps33
  go_upto_region 1 with fail
  obtain ⟨W1, hW1⟩ : ∃ v, v = World.alloc w (Obj.cells #[.slice a ls.length cp] 75) := ⟨_, rfl⟩
  have kW1 : Below w.heap.size w W1 := by rw [hW1]; exact below_new _ _
  have iW1 : Blk W1 (w.heap.size) 75 [.slice a ls.length cp] := by rw [hW1]; exact Blk.new _ _ _
  have sW1 : W1.heap.size = w.heap.size + 1 := by rw [hW1]; simp
  rw [← hW1]
  clear hW1
  obtain ⟨W2, hW2⟩ : ∃ v, v = World.alloc W1 (Obj.cells #[.int .i64 h] 3) := ⟨_, rfl⟩
  have kW2 : Below W1.heap.size W1 W2 := by rw [hW2]; exact below_new _ _
  have iW2 : Blk W2 (w.heap.size + 1) 3 [.int .i64 h] := by rw [hW2, ← sW1]; exact Blk.new _ _ _
  have sW2 : W2.heap.size = w.heap.size + 1 + 1 := by rw [hW2]; simp [sW1]
  rw [← hW2]
  clear hW2
  have i1 := iW1.carry kW2
  have a0 := i1.cell (j := 0) (v := .slice a ls.length cp) rfl
  have d0 := iW2.cell (j := 0) (v := .int .i64 h) rfl
  have hB := bthen kW1 kW2
  clear iW1 iW2 kW1 kW2 sW1 sW2
  go_wp2_with fail
  refine (TC.out W2 (HV.out.carry hB) (HU.out.carry hB)).mono ?_
  rintro e w3 ⟨rfl, hb⟩
  have a0 := cellb a0 hb
  have d0 := cellb d0 hb
  replace i1 := i1.carry hb
  replace hB := bthen hB hb
  clear hb
  by_cases he : E = 0
  · subst he
    go_wp2_with fail
    refine (TE.out w3 (HU.out.carry hB)).mono ?_
    rintro e w4 ⟨⟨u4, rfl, hu4⟩, hb⟩
    have a0 := cellb a0 hb
    have d0 := cellb d0 hb
    replace i1 := i1.carry hb
    replace hB := bthen hB hb
    clear hb
    have TI2 := Lib.hid (TI.out _ _ w4 u4 hu4 (HV.out.carry hB) (by trivial) i1 d0)
    clear TI hu4
    go_wp2_with fail
    refine TI2.out.mono ?_
    rintro e w6 ⟨rfl, hb⟩
    by_cases hk : k < 0
    · have HK := Lib.hid (show negB k = true by simp [negB, hk])
      go_wp2
      go_ret2
      exact ⟨by rw [HR.out, HK.out]; rfl, bthen hB hb⟩
    · have HK := Lib.hid (show negB k = false by simp [negB]; omega)
      go_wp2
      go_ret2
      exact ⟨by rw [HR.out, HK.out]; rfl, bthen hB hb⟩
  · have z : (E == 0) = false := by rw [beq_eq_false_iff_ne]; exact he
    have HNE := Lib.hid z
    go_wp2_with fail
    go_ret2
    exact ⟨by rw [HR.out, HNE.out]; rfl, hB⟩
end Go.Proofs.YtfeajpkjjlddlaaGreatDoor

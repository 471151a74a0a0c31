/- The package harmonic: inside and outside of a polygon, its extreme corner. -/
import Derived.Test.YtpkaoechbmbolaaGreatDoorHarY
namespace Go.Proofs.YtpkaoechbmbolaaGreatDoor
set_option linter.unusedSimpArgs false
set_option linter.unusedVariables false
open Go.RowKit

theorem Tryz.enterOutside1 (args : Array Value) (w : World) : Sem.run Tryz.prog (callFunc 99 args) w = .ok (.enter 99 args) w :=
  MuLone.run_callFunc_enter Tryz.func99 (by kernel_rfl) rfl args w
set_option maxRecDepth 100000 in
set_option maxHeartbeats 1000000 in
theorem outside1_any (x : I4) (p : Int × Int) (den : Int) (B D : Nat) (w : World) (hb : Blk w B 63 [.int .i64 p.1, .int .i64 p.2]) (hd : w.cell? ⟨D, 0, none⟩ = some (.int .i64 den)) :
    Calls Tryz.prog 99 #[.agg #[.int .i64 x.1, .int .i64 x.2.1, .int .i64 x.2.2.1, .int .i64 x.2.2.2], .pointer (some ⟨B, 0, none⟩), .pointer (some ⟨D, 0, none⟩)] w fun e w' => e = .returned (.bool (negB (sideE x p den))) ∧ Below w.heap.size w w' := by
  have TS := Lib.hid (fun W => side_any x p den W)
  generalize sideE x p den = s at TS ⊢
  obtain ⟨fr, fi, tr, ti⟩ := x
  obtain ⟨pr, qi⟩ := p
  simp only at TS hb ⊢
  have b0 := hb.cell (j := 0) (v := .int .i64 pr) rfl
  have b1 := hb.cell (j := 1) (v := .int .i64 qi) rfl
  clear hb
  go_enter Tryz.func99, Tryz.ntmps99
  go_upto_region 1 with fail
  obtain ⟨W1, hW1⟩ : ∃ v, v = World.alloc w (Obj.cells #[.int .i64 fr, .int .i64 fi, .int .i64 tr, .int .i64 ti] 122) := ⟨_, rfl⟩
  have kW1 : Below w.heap.size w W1 := by rw [hW1]; exact below_new _ _
  have iW1 : Blk W1 (w.heap.size) 122 [.int .i64 fr, .int .i64 fi, .int .i64 tr, .int .i64 ti] := by rw [hW1]; exact Blk.new _ _ _
  have sW1 : W1.heap.size = w.heap.size + 1 := by rw [hW1]; simp
  rw [← hW1]
  clear hW1
  have a0 := iW1.cell (j := 0) (v := .int .i64 fr) rfl
  have a1 := iW1.cell (j := 1) (v := .int .i64 fi) rfl
  have a2 := iW1.cell (j := 2) (v := .int .i64 tr) rfl
  have a3 := iW1.cell (j := 3) (v := .int .i64 ti) rfl
  have b0 := cellb b0 kW1
  have b1 := cellb b1 kW1
  have hd := cellb hd kW1
  go_wp2_with fail
  refine (TS.out W1).mono ?_
  rintro e w2 ⟨rfl, hl⟩
  go_wp2
  go_ret
  exact ⟨rfl, bthen kW1 hl⟩

/-- the first edge to whose right a point is. -/
def outL (l : List (Int × Int)) (p : Int × Int) (den : Int) : Int := findX (fun x => negB (sideE x p den)) (edgesL l)
set_option maxRecDepth 100000 in
set_option maxHeartbeats 1000000 in
theorem outside_any (v : Value) (l : List (Int × Int)) (p : Int × Int) (den : Int) (w : World) (hv : Pairs w v l) (hl : l.length ≤ 1000000) :
    Calls Tryz.prog 72 #[v, .agg #[.int .i64 p.1, .int .i64 p.2], .int .i64 den] w fun e w' => e = .returned (.int .i64 (outL l p den)) ∧ Below w.heap.size w w' := by
  obtain ⟨R, hR⟩ : ∃ R, R = outL l p den := ⟨_, rfl⟩
  rw [← hR]
  rw [outL] at hR
  have HR := Lib.hid hR
  clear hR
  have HV := Lib.hid hv
  obtain ⟨a, cp, rfl, _, _⟩ := id hv
  clear hv
  go_enter Tryz.func72, Tryz.ntmps72
  go_upto_region 1 with fail
  obtain ⟨W1, hW1⟩ : ∃ v, v = World.alloc w (Obj.cells #[.int .i64 p.1, .int .i64 p.2] 63) := ⟨_, rfl⟩
  have kW1 : Below w.heap.size w W1 := by rw [hW1]; exact below_new _ _
  have iW1 : Blk W1 (w.heap.size) 63 [.int .i64 p.1, .int .i64 p.2] := by rw [hW1]; exact Blk.new _ _ _
  have sW1 : W1.heap.size = w.heap.size + 1 := by rw [hW1]; simp
  rw [← hW1]
  clear hW1
  obtain ⟨W2, hW2⟩ : ∃ v, v = World.alloc W1 (Obj.cells #[.int .i64 den] 3) := ⟨_, rfl⟩
  have kW2 : Below W1.heap.size W1 W2 := by rw [hW2]; exact below_new _ _
  have iW2 : Blk W2 (w.heap.size + 1) 3 [.int .i64 den] := by rw [hW2, ← sW1]; exact Blk.new _ _ _
  have sW2 : W2.heap.size = w.heap.size + 1 + 1 := by rw [hW2]; simp [sW1]
  rw [← hW2]
  clear hW2
  have i1 := iW1.carry kW2
  have d0 := iW2.cell (j := 0) (v := .int .i64 den) rfl
  have hB := bthen kW1 kW2
  clear iW1 iW2 kW1 kW2 sW1 sW2
  have TE := Lib.hid (edges_any _ l W2 (HV.out.carry hB) hl)
  go_wp2_with fail
  refine TE.out.mono ?_
  rintro e w3 ⟨⟨u, rfl, hu⟩, hb⟩
  replace i1 := i1.carry hb
  have d0 := cellb d0 hb
  replace hB := bthen hB hb
  clear hb TE
  have TI := Lib.hid (IndexFuncE_any 99 #[.pointer (some ⟨w.heap.size, 0, none⟩), .pointer (some ⟨w.heap.size + 1, 0, none⟩)] Tryz.enterOutside1 (fun x => negB (sideE x p den)) u (edgesL l) w3 (by rw [edgesL, upto_length]; omega) hu (fun x _ w1 hb => outside1_any x p den _ _ w1 (i1.carry hb) (cellb d0 hb)))
  clear hu
  go_wp2_with fail
  refine TI.out.mono ?_
  rintro e w4 ⟨rfl, hb⟩
  go_wp2
  go_ret
  exact ⟨ret_int HR.out.symm, bthen hB hb⟩

def insE (l : List (Int × Int)) (p : Int × Int) : Int := firstE [polE l, pointE p]
def bOr (e : Int) (b : Bool) : Bool := bif e == 0 then b else false
def iOr (e : Int) (x : Int) : Int := if e = 0 then x else 0
end Go.Proofs.YtpkaoechbmbolaaGreatDoor

/- Response. -/
import Derived.Test.YtnlmaildmeihgaaGreatDoorRingD
import Derived.WalkLawsBesides
namespace Go.Proofs.YtnlmaildmeihgaaGreatDoor
open Go.RowKit

/-- the package's table of the four quarters, as its initialiser lays it. -/
structure Quarters (w : World) : Prop where
  q0 : w.cell? ⟨0, 0, none⟩ = some (.int .i64 1)
  q1 : w.cell? ⟨0, 1, none⟩ = some (.int .i64 0)
  q2 : w.cell? ⟨0, 2, none⟩ = some (.int .i64 0)
  q3 : w.cell? ⟨0, 3, none⟩ = some (.int .i64 1)
  q4 : w.cell? ⟨0, 4, none⟩ = some (.int .i64 (-1))
  q5 : w.cell? ⟨0, 5, none⟩ = some (.int .i64 0)
  q6 : w.cell? ⟨0, 6, none⟩ = some (.int .i64 0)
  q7 : w.cell? ⟨0, 7, none⟩ = some (.int .i64 (-1))
theorem Quarters.below {n : Nat} {w w' : World} (h : Quarters w) (hb : Below n w w') (hn : 0 < n) : Quarters w' := by
  have e : ∀ j, w'.cell? ⟨0, j, none⟩ = w.cell? ⟨0, j, none⟩ := fun j => World.cell?_of_block (a := ⟨0, j, none⟩) (hb.block 0 hn)
  exact ⟨(e 0).trans h.q0, (e 1).trans h.q1, (e 2).trans h.q2, (e 3).trans h.q3, (e 4).trans h.q4, (e 5).trans h.q5, (e 6).trans h.q6, (e 7).trans h.q7⟩
theorem Quarters.size {w : World} (h : Quarters w) : 0 < w.heap.size := by
  have h0 := h.q0
  rcases Nat.eq_zero_or_pos w.heap.size with hz | hz
  · simp [World.cell?, hz] at h0
  · exact hz

def quarterAt : Nat → Int × Int
  | 0 => (1, 0) | 1 => (0, 1) | 2 => (-1, 0) | _ => (0, -1)
/-- a complex integer as a complex number. -/
def cx (z : Int × Int) : Value := .complex .f64 (floatOfInt .f64 z.1) (floatOfInt .f64 z.2)
def respV (l : List Int) (k : Nat) : Value := cx (atW l (quarterAt k).1 (quarterAt k).2)
def respRow (l : List Int) (k : Nat) : List Value := (List.range 4).map fun j => if j < k then respV l j else .complex .f64 0 0
theorem respRow_set (l : List Int) (k : Nat) (h : k < 4) : (respRow l k).set k (respV l k) = respRow l (k + 1) := by
  obtain rfl | rfl | rfl | rfl : k = 0 ∨ k = 1 ∨ k = 2 ∨ k = 3 := by omega
  all_goals simp [respRow, List.range_succ]
def respR (a b c d : List Int) : List Value := if checkLoopE a b c d ≠ 0 then List.replicate 4 (.complex .f64 0 0) else respRow (closedW a b c d) 4

def quartersA : Array Value := #[.int .i64 1, .int .i64 0, .int .i64 0, .int .i64 1, .int .i64 (-1), .int .i64 0, .int .i64 0, .int .i64 (-1)]
theorem index_q0 (w : World) : (Instr.index 160 (.agg #[.int .i64 1, .int .i64 0, .int .i64 0, .int .i64 1, .int .i64 (-1), .int .i64 0, .int .i64 0, .int .i64 (-1)]) (.int .i64 0)).run Tryz.prog w = .ok (.agg #[.int .i64 1, .int .i64 0]) w := by kernel_rfl
theorem index_q1 (w : World) : (Instr.index 160 (.agg #[.int .i64 1, .int .i64 0, .int .i64 0, .int .i64 1, .int .i64 (-1), .int .i64 0, .int .i64 0, .int .i64 (-1)]) (.int .i64 1)).run Tryz.prog w = .ok (.agg #[.int .i64 0, .int .i64 1]) w := by kernel_rfl
theorem index_q2 (w : World) : (Instr.index 160 (.agg #[.int .i64 1, .int .i64 0, .int .i64 0, .int .i64 1, .int .i64 (-1), .int .i64 0, .int .i64 0, .int .i64 (-1)]) (.int .i64 2)).run Tryz.prog w = .ok (.agg #[.int .i64 (-1), .int .i64 0]) w := by kernel_rfl
theorem index_q3 (w : World) : (Instr.index 160 (.agg #[.int .i64 1, .int .i64 0, .int .i64 0, .int .i64 1, .int .i64 (-1), .int .i64 0, .int .i64 0, .int .i64 (-1)]) (.int .i64 3)).run Tryz.prog w = .ok (.agg #[.int .i64 0, .int .i64 (-1)]) w := by kernel_rfl
theorem store_cx (x y : Nat) (ad : Addr) (m : Mode) (w : World) : (store ad (.complex .f64 x y) m).run Tryz.prog w = stored Tryz.prog w ad (.complex .f64 x y) m := run_store Tryz.prog w ad _ m rfl
theorem store_resp (l : List Int) (k : Nat) (ad : Addr) (m : Mode) (w : World) : (store ad (respV l k) m).run Tryz.prog w = stored Tryz.prog w ad (respV l k) m := run_store Tryz.prog w ad _ m rfl

set_option maxRecDepth 100000 in
set_option maxHeartbeats 4000000 in
theorem Response_any (va vb vc vd : Value) (a b c d : List Int) (w : World) (hq : Quarters w) (ha : Ints w va a) (hb : Ints w vb b) (hc : Ints w vc c) (hd : Ints w vd d)
    (ha2 : a.length ≤ 100000) (hb2 : b.length ≤ 100000) (hc2 : c.length ≤ 100000) (hd2 : d.length ≤ 100000) :
    Calls Tryz.prog 29 #[.agg #[va, vb, vc, vd]] w fun r w' => r = .returned (.tuple #[.agg (respR a b c d).toArray, .int .i64 (checkLoopE a b c d)]) ∧ Below w.heap.size w w' := by
  go_enter Tryz.func29, Tryz.ntmps29
  go_wp2_with fail
  obtain ⟨W1, hW1⟩ : ∃ v, v = World.alloc w (Obj.cells #[va, vb, vc, vd] 44) := ⟨_, rfl⟩
  have kW1 : Below w.heap.size w W1 := by rw [hW1]; exact below_new _ _
  have iW1 : Blk W1 (w.heap.size) 44 [va, vb, vc, vd] := by rw [hW1]; exact Blk.new _ _ _
  have sW1 : W1.heap.size = w.heap.size + 1 := by rw [hW1]; simp
  rw [← hW1]
  clear hW1
  obtain ⟨W2, hW2⟩ : ∃ v, v = World.alloc W1 (Obj.cells #[.complex .f64 0 0, .complex .f64 0 0, .complex .f64 0 0, .complex .f64 0 0] 49) := ⟨_, rfl⟩
  have kW2 : Below W1.heap.size W1 W2 := by rw [hW2]; exact below_new _ _
  have iW2 : Blk W2 (w.heap.size + 1) 49 [.complex .f64 0 0, .complex .f64 0 0, .complex .f64 0 0, .complex .f64 0 0] := by rw [hW2, ← sW1]; exact Blk.new _ _ _
  have sW2 : W2.heap.size = w.heap.size + 1 + 1 := by rw [hW2]; simp [sW1]
  rw [← hW2]
  clear hW2
  have hB := bthen kW1 kW2
  have hs2 : W2.heap.size = w.heap.size + 2 := by omega
  clear sW1 sW2
  have TC := Lib.hid (CheckLoop_any va vb vc vd a b c d _ (ha.below hB) (hb.below hB) (hc.below hB) (hd.below hB) ha2 hb2 hc2 hd2)
  refine TC.out.mono ?_
  clear TC
  rintro e w2 ⟨rfl, h2⟩
  have hB2 := bthen hB h2
  have l2 := (iW1.carry kW2).carry h2
  have r2 := iW2.carry h2
  have hs2 : w.heap.size + 2 ≤ w2.heap.size := by have := h2.size; omega
  have k0 := l2.cell (j := 0) rfl
  have k1 := l2.cell (j := 1) rfl
  have k2 := l2.cell (j := 2) rfl
  have k3 := l2.cell (j := 3) rfl
  have z0 := r2.cell (j := 0) rfl
  have z1 := r2.cell (j := 1) rfl
  have z2 := r2.cell (j := 2) rfl
  have z3 := r2.cell (j := 3) rfl
  have f0 := r2.frozen 0
  have f1 := r2.frozen 1
  have f2 := r2.frozen 2
  have f3 := r2.frozen 3
  by_cases he : checkLoopE a b c d = 0
  · obtain ⟨ea, eb, ec, ed⟩ := checkLoopE_ok he
    have ⟨a1, a5⟩ := checkPolyE_ok ea
    have ⟨b1, b5⟩ := checkPolyE_ok eb
    have ⟨c1, c5⟩ := checkPolyE_ok ec
    have ⟨d1, d5⟩ := checkPolyE_ok ed
    clear ea eb ec ed
    have HR := Lib.hid (show respR a b c d = respRow (closedW a b c d) 4 by rw [respR, if_neg (by rw [he]; simp)])
    have HE := Lib.hid he
    rw [he]
    clear he
    have T2 := Lib.hid (closed_any va vb vc vd a b c d w2 (ha.below hB2) (hb.below hB2) (hc.below hB2) (hd.below hB2) a1 b1 c1 d1 ha2 hb2 hc2 hd2)
    go_wp2_with fail
    refine T2.out.mono ?_
    clear T2
    rintro e w3 ⟨⟨u, rfl, hu⟩, h3⟩
    have hq3 := hq.below (bthen hB2 h3) hq.size
    have hq4 := hq3.below (below_new w3 (.cells #[.complex .f64 0 0, .complex .f64 0 0, .complex .f64 0 0, .complex .f64 0 0] 49)) hq3.size
    obtain ⟨q0, q1, q2, q3, q4, q5, q6, q7⟩ := hq4
    go_wp2_with fail
    clear q0 q1 q2 q3 q4 q5 q6 q7 k0 k1 k2 k3
    obtain ⟨W4, hW4⟩ : ∃ v, v = World.alloc w3 (Obj.cells #[.complex .f64 0 0, .complex .f64 0 0, .complex .f64 0 0, .complex .f64 0 0] 49) := ⟨_, rfl⟩
    have kW4 : Below w3.heap.size w3 W4 := by rw [hW4]; exact below_new _ _
    have iW4 : Blk W4 (w3.heap.size) 49 [.complex .f64 0 0, .complex .f64 0 0, .complex .f64 0 0, .complex .f64 0 0] := by rw [hW4]; exact Blk.new _ _ _
    have sW4 : W4.heap.size = w3.heap.size + 1 := by rw [hW4]; simp
    rw [← hW4]
    clear hW4
    clear sW4
    generalize hl : closedW a b c d = l at hu HR
    have hll : l.length ≤ 1000000 := by rw [← hl]; have := closedW_length a b c d; omega
    clear hl
    go_loopw [19] (fun vi wr => ∃ k : Nat, k ≤ 4 ∧ vi = .int .i64 k ∧ Below w3.heap.size w3 wr ∧ Blk wr w3.heap.size 49 (respRow l k)) (fun vi _ => 4 - (intOf vi).toNat)
    case atStart => exact ⟨0, by omega, rfl, kW4, iW4⟩
    case round =>
      obtain ⟨k, hk, rfl, hbr, hcr⟩ := hrel
      by_cases hlt : k < 4
      · have hset := Lib.hid (respRow_set l k hlt)
        have TA := fun (W : World) (h : Ints W u l) (zr zi : Int) => at_any u l zr zi W h (by omega)
        have TA := Lib.hid TA
        obtain rfl | rfl | rfl | rfl : k = 0 ∨ k = 1 ∨ k = 2 ∨ k = 3 := by omega
        · have hix := index_q0
          have hsx := store_cx
          go_wp2_with fail
          obtain ⟨X1, hX1⟩ : ∃ v, v = World.alloc wr (Obj.cells #[.int .i64 1, .int .i64 0] 59) := ⟨_, rfl⟩
          have kX1 : Below wr.heap.size wr X1 := by rw [hX1]; exact below_new _ _
          have iX1 : Blk X1 (wr.heap.size) 59 [.int .i64 1, .int .i64 0] := by rw [hX1]; exact Blk.new _ _ _
          have sX1 : X1.heap.size = wr.heap.size + 1 := by rw [hX1]; simp
          rw [← hX1]
          clear hX1
          clear sX1
          refine (TA.out X1 (hu.below (bthen hbr kX1)) 1 0).mono ?_
          rintro e w5 ⟨rfl, h5⟩
          have hb5 := bthen (bthen hbr kX1) h5
          have kY := below_new w5 (.cells #[.int .i64 (atW l 1 0).1, .int .i64 (atW l 1 0).2] 59)
          have hcY := ((hcr.carry kX1).carry h5).carry kY
          have c0 := hcY.cell (j := 0) (v := .complex .f64 0 0) rfl
          have f0 := hcY.frozen 0
          go_wp2_with fail
          have hx := hcY.set 0 (respV l 0)
          rw [hset.out] at hx
          exact ⟨⟨0 + 1, by omega, by simp, ((bthen hb5 kY).setCell (Nat.le_refl _) _), hx⟩, by simp [intOf]⟩
        · have hix := index_q1
          have hsx := store_cx
          go_wp2_with fail
          obtain ⟨X1, hX1⟩ : ∃ v, v = World.alloc wr (Obj.cells #[.int .i64 0, .int .i64 1] 59) := ⟨_, rfl⟩
          have kX1 : Below wr.heap.size wr X1 := by rw [hX1]; exact below_new _ _
          have iX1 : Blk X1 (wr.heap.size) 59 [.int .i64 0, .int .i64 1] := by rw [hX1]; exact Blk.new _ _ _
          have sX1 : X1.heap.size = wr.heap.size + 1 := by rw [hX1]; simp
          rw [← hX1]
          clear hX1
          clear sX1
          refine (TA.out X1 (hu.below (bthen hbr kX1)) 0 1).mono ?_
          rintro e w5 ⟨rfl, h5⟩
          have hb5 := bthen (bthen hbr kX1) h5
          have kY := below_new w5 (.cells #[.int .i64 (atW l 0 1).1, .int .i64 (atW l 0 1).2] 59)
          have hcY := ((hcr.carry kX1).carry h5).carry kY
          have c0 := hcY.cell (j := 1) (v := .complex .f64 0 0) rfl
          have f0 := hcY.frozen 1
          go_wp2_with fail
          have hx := hcY.set 1 (respV l 1)
          rw [hset.out] at hx
          exact ⟨⟨1 + 1, by omega, by simp, ((bthen hb5 kY).setCell (Nat.le_refl _) _), hx⟩, by simp [intOf]⟩
        · have hix := index_q2
          have hsx := store_cx
          go_wp2_with fail
          obtain ⟨X1, hX1⟩ : ∃ v, v = World.alloc wr (Obj.cells #[.int .i64 (-1), .int .i64 0] 59) := ⟨_, rfl⟩
          have kX1 : Below wr.heap.size wr X1 := by rw [hX1]; exact below_new _ _
          have iX1 : Blk X1 (wr.heap.size) 59 [.int .i64 (-1), .int .i64 0] := by rw [hX1]; exact Blk.new _ _ _
          have sX1 : X1.heap.size = wr.heap.size + 1 := by rw [hX1]; simp
          rw [← hX1]
          clear hX1
          clear sX1
          refine (TA.out X1 (hu.below (bthen hbr kX1)) (-1) 0).mono ?_
          rintro e w5 ⟨rfl, h5⟩
          have hb5 := bthen (bthen hbr kX1) h5
          have kY := below_new w5 (.cells #[.int .i64 (atW l (-1) 0).1, .int .i64 (atW l (-1) 0).2] 59)
          have hcY := ((hcr.carry kX1).carry h5).carry kY
          have c0 := hcY.cell (j := 2) (v := .complex .f64 0 0) rfl
          have f0 := hcY.frozen 2
          go_wp2_with fail
          have hx := hcY.set 2 (respV l 2)
          rw [hset.out] at hx
          exact ⟨⟨2 + 1, by omega, by simp, ((bthen hb5 kY).setCell (Nat.le_refl _) _), hx⟩, by simp [intOf]⟩
        · have hix := index_q3
          have hsx := store_cx
          go_wp2_with fail
          obtain ⟨X1, hX1⟩ : ∃ v, v = World.alloc wr (Obj.cells #[.int .i64 0, .int .i64 (-1)] 59) := ⟨_, rfl⟩
          have kX1 : Below wr.heap.size wr X1 := by rw [hX1]; exact below_new _ _
          have iX1 : Blk X1 (wr.heap.size) 59 [.int .i64 0, .int .i64 (-1)] := by rw [hX1]; exact Blk.new _ _ _
          have sX1 : X1.heap.size = wr.heap.size + 1 := by rw [hX1]; simp
          rw [← hX1]
          clear hX1
          clear sX1
          refine (TA.out X1 (hu.below (bthen hbr kX1)) 0 (-1)).mono ?_
          rintro e w5 ⟨rfl, h5⟩
          have hb5 := bthen (bthen hbr kX1) h5
          have kY := below_new w5 (.cells #[.int .i64 (atW l 0 (-1)).1, .int .i64 (atW l 0 (-1)).2] 59)
          have hcY := ((hcr.carry kX1).carry h5).carry kY
          have c0 := hcY.cell (j := 3) (v := .complex .f64 0 0) rfl
          have f0 := hcY.frozen 3
          go_wp2_with fail
          have hx := hcY.set 3 (respV l 3)
          rw [hset.out] at hx
          exact ⟨⟨3 + 1, by omega, by simp, ((bthen hb5 kY).setCell (Nat.le_refl _) _), hx⟩, by simp [intOf]⟩
      · obtain rfl : k = 4 := by omega
        replace hcr : Blk wr w3.heap.size 49 [respV l 0, respV l 1, respV l 2, respV l 3] := hcr
        have hbr2 := bthen h3 hbr
        have r4 := r2.carry hbr2
        have c0 := hcr.cell (j := 0) rfl
        have c1 := hcr.cell (j := 1) rfl
        have c2 := hcr.cell (j := 2) rfl
        have c3 := hcr.cell (j := 3) rfl
        have z0 := r4.cell (j := 0) rfl
        have z1 := r4.cell (j := 1) rfl
        have z2 := r4.cell (j := 2) rfl
        have z3 := r4.cell (j := 3) rfl
        have f0 := r4.frozen 0
        have f1 := r4.frozen 1
        have f2 := r4.frozen 2
        have f3 := r4.frozen 3
        have hsx := store_resp l
        go_wp2
        have y := (((r4.set 0 (respV l 0)).set 1 (respV l 1)).set 2 (respV l 2)).set 3 (respV l 3)
        have y0 := y.cell (j := 0) (v := respV l 0) rfl
        have y1 := y.cell (j := 1) (v := respV l 1) rfl
        have y2 := y.cell (j := 2) (v := respV l 2) rfl
        have y3 := y.cell (j := 3) (v := respV l 3) rfl
        refine bodyPost_ret (v := .tuple #[.agg #[respV l 0, respV l 1, respV l 2, respV l 3], .int .i64 0]) (by simp [results, Tryz.f29, go_sem, y0, y1, y2, y3]) rfl ⟨?_, ((((bthen hB2 hbr2).setCell (by simp) _).setCell (by simp) _).setCell (by simp) _).setCell (by simp) _⟩
        rw [HR.out, HE.out]
        rfl
  · have HR := Lib.hid (show respR a b c d = List.replicate 4 (.complex .f64 0 0) by rw [respR, if_pos he])
    have hsx := store_cx
    go_wp2
    have y := (((r2.set 0 (.complex .f64 0 0)).set 1 (.complex .f64 0 0)).set 2 (.complex .f64 0 0)).set 3 (.complex .f64 0 0)
    have y0 := y.cell (j := 0) rfl
    have y1 := y.cell (j := 1) rfl
    have y2 := y.cell (j := 2) rfl
    have y3 := y.cell (j := 3) rfl
    refine bodyPost_ret (v := .tuple #[.agg #[.complex .f64 0 0, .complex .f64 0 0, .complex .f64 0 0, .complex .f64 0 0], .int .i64 (checkLoopE a b c d)]) (by simp [results, Tryz.f29, go_sem, y0, y1, y2, y3]) rfl ⟨?_, (((hB2.setCell (by simp) _).setCell (by simp) _).setCell (by simp) _).setCell (by simp) _⟩
    rw [HR.out]
    rfl

end Go.Proofs.YtnlmaildmeihgaaGreatDoor

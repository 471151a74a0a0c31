/- The reference of chapter 4: strength, turned. -/
import Derived.Test.YtfeajpkjjlddlaaGreatDoorHarS
namespace Go.Proofs.YtfeajpkjjlddlaaGreatDoor
set_option linter.unusedSimpArgs false
set_option linter.unusedVariables false
open Go.RowKit

/-- the strength, as the reference reckons it. -/
def sr0 (x0 x1 x2 x3 : Int) : Int := cy0 x0 x1 x2 x3 (wrap64 (x0 - x1)) (wrap64 (-x1)) (wrap64 (0 - wrap64 (x2 - x3))) (wrap64 (0 - wrap64 (-x3)))
def sr2 (x0 x1 x2 x3 : Int) : Int := cy2 x0 x1 x2 x3 (wrap64 (x0 - x1)) (wrap64 (-x1)) (wrap64 (0 - wrap64 (x2 - x3))) (wrap64 (0 - wrap64 (-x3)))
def sr1 (x0 x1 x2 x3 : Int) : Int := wrap64 (-(sr2 x0 x1 x2 x3))

set_option maxHeartbeats 1000000 in
theorem Floor12_any (n : Int) (w : World) (hn : -4611686018427387904 ≤ n ∧ n ≤ 4611686018427387904) :
    Calls Tryz.prog 49 #[.int .i64 n, .int .i64 12] w fun e w' => e = .returned (.int .i64 (n / 12)) ∧ w = w' := by
  have h1 : n.tdiv 12 = n / 12 ∨ n.tdiv 12 = n / 12 + 1 := by
    rcases Int.le_total 0 n with h | h
    · left; exact Int.tdiv_eq_ediv_of_nonneg h
    · obtain ⟨m, rfl⟩ : ∃ m, n = -m := ⟨-n, by omega⟩
      rw [Int.neg_tdiv, Int.tdiv_eq_ediv_of_nonneg (by omega)]
      omega
  have h2 : n.tdiv 12 * 12 > n ↔ n.tdiv 12 = n / 12 + 1 := by omega
  obtain ⟨q, hq⟩ : ∃ q, n.tdiv 12 = q := ⟨_, rfl⟩
  rw [hq] at h1 h2
  have hqb : -400000000000000000 ≤ q ∧ q ≤ 400000000000000000 := by omega
  rcases h1 with h1 | h1
  · have d1 : ¬ n < q * 12 := by omega
    have d2 : decide (n < q * 12) = false := decide_eq_false d1
    have H := Lib.hid h1
    clear h1 h2
    go_enter Tryz.func49, Tryz.ntmps49
    go_wp2_with fail
    go_ret
    exact ⟨ret_int H.out, rfl⟩
  · have d1 : n < q * 12 := by omega
    have d2 : decide (n < q * 12) = true := decide_eq_true d1
    have H := Lib.hid (show q - 1 = n / 12 by omega)
    clear h1 h2
    go_enter Tryz.func49, Tryz.ntmps49
    go_wp2_with fail
    go_ret
    exact ⟨ret_int H.out, rfl⟩

/-- a number, multiplied by the root so often. -/
def rotC : Nat → Int × Int × Int × Int → Int × Int × Int × Int
  | 0, x => x
  | k + 1, x => cyMul (rotC k x) (0, 0, 0, -1)

set_option maxRecDepth 100000 in
set_option maxHeartbeats 4000000 in
theorem TurnedR_any (x0 x1 x2 x3 n : Int) (m : Nat) (w : World) (hn : -4611686018427387904 ≤ n ∧ n ≤ 4611686018427387904) (hm : n % 12 = m) :
    Calls Tryz.prog 48 #[.agg #[.int .i64 x0, .int .i64 x1, .int .i64 x2, .int .i64 x3], .int .i64 n] w fun e w' => e = .returned (cyV (rotC m (x0, x1, x2, x3))) ∧ Below w.heap.size w w' := by
  have TF := Lib.hid (fun W => Floor12_any n W hn)
  have hmb : (m : Int) ≤ 11 := by omega
  obtain ⟨F, hF⟩ : ∃ F, F = n / 12 := ⟨_, rfl⟩
  rw [← hF] at TF
  have hFn : 12 * F = n - m := by omega
  have hFb : -400000000000000000 ≤ F ∧ F ≤ 400000000000000000 := by omega
  have e1 : wrap64 (n - 12 * F) = (m : Int) := by rw [hFn]; unfold wrap64; omega
  have e2 : n - 12 * F = (m : Int) := by omega
  clear hF hFn hm
  obtain ⟨y, hy⟩ : ∃ y, y = (x0, x1, x2, x3) := ⟨_, rfl⟩
  rw [← hy]
  have HY := Lib.hid hy
  clear hy
  obtain ⟨T, hT⟩ : ∃ T, T = rotC m y := ⟨_, rfl⟩
  rw [← hT]
  have HT := Lib.hid hT
  clear hT
  go_enter Tryz.func48, Tryz.ntmps48
  go_upto_region 3 with fail
  obtain ⟨W1, hW1⟩ : ∃ v, v = World.alloc w (Obj.cells #[.int .i64 x0, .int .i64 x1, .int .i64 x2, .int .i64 x3] 25) := ⟨_, rfl⟩
  have kW1 : Below w.heap.size w W1 := by rw [hW1]; exact below_new _ _
  have iW1 : Blk W1 (w.heap.size) 25 [.int .i64 x0, .int .i64 x1, .int .i64 x2, .int .i64 x3] := by rw [hW1]; exact Blk.new _ _ _
  have sW1 : W1.heap.size = w.heap.size + 1 := by rw [hW1]; simp
  rw [← hW1]
  clear hW1
  obtain ⟨W2, hW2⟩ : ∃ v, v = World.alloc W1 (Obj.cells #[.int .i64 0, .int .i64 0, .int .i64 0, .int .i64 0] 25) := ⟨_, rfl⟩
  have kW2 : Below W1.heap.size W1 W2 := by rw [hW2]; exact below_new _ _
  have iW2 : Blk W2 (w.heap.size + 1) 25 [.int .i64 0, .int .i64 0, .int .i64 0, .int .i64 0] := by rw [hW2, ← sW1]; exact Blk.new _ _ _
  have sW2 : W2.heap.size = w.heap.size + 1 + 1 := by rw [hW2]; simp [sW1]
  rw [← hW2]
  clear hW2
  obtain ⟨W3, hW3⟩ : ∃ v, v = World.alloc W2 (Obj.cells #[.int .i64 0, .int .i64 0, .int .i64 0, .int .i64 (-1)] 25) := ⟨_, rfl⟩
  have kW3 : Below W2.heap.size W2 W3 := by rw [hW3]; exact below_new _ _
  have iW3 : Blk W3 (w.heap.size + 1 + 1) 25 [.int .i64 0, .int .i64 0, .int .i64 0, .int .i64 (-1)] := by rw [hW3, ← sW2]; exact Blk.new _ _ _
  have sW3 : W3.heap.size = w.heap.size + 1 + 1 + 1 := by rw [hW3]; simp [sW2]
  rw [← hW3]
  clear hW3
  obtain ⟨W4, hW4⟩ : ∃ v, v = World.alloc W3 (Obj.cells #[.int .i64 x0, .int .i64 x1, .int .i64 x2, .int .i64 x3] 25) := ⟨_, rfl⟩
  have kW4 : Below W3.heap.size W3 W4 := by rw [hW4]; exact below_new _ _
  have iW4 : Blk W4 (w.heap.size + 1 + 1 + 1) 25 [.int .i64 x0, .int .i64 x1, .int .i64 x2, .int .i64 x3] := by rw [hW4, ← sW3]; exact Blk.new _ _ _
  have sW4 : W4.heap.size = w.heap.size + 1 + 1 + 1 + 1 := by rw [hW4]; simp [sW3]
  rw [← hW4]
  clear hW4
  clear sW1 sW2 sW3 sW4
  have iR := (iW2.carry kW3).carry kW4
  have iP := iW3.carry kW4
  have iN := iW4
  have hB := bthen kW1 (bthen kW2 (bthen kW3 kW4))
  clear iW1 kW1 iW2 kW2 iW3 kW3 iW4 kW4
  have hy0 : y = (x0, x1, x2, x3) := HY.out
  have hx0 : x0 = (rotC 0 y).1 := by rw [hy0]; rfl
  have hx1 : x1 = (rotC 0 y).2.1 := by rw [hy0]; rfl
  have hx2 : x2 = (rotC 0 y).2.2.1 := by rw [hy0]; rfl
  have hx3 : x3 = (rotC 0 y).2.2.2 := by rw [hy0]; rfl
  have iN0 : Blk W4 ((w.heap.size + 1 + 1 + 1)) 25 [.int .i64 (rotC 0 y).1, .int .i64 (rotC 0 y).2.1, .int .i64 (rotC 0 y).2.2.1, .int .i64 (rotC 0 y).2.2.2] := by rw [← hx0, ← hx1, ← hx2, ← hx3]; exact iN
  clear hy0 hx0 hx1 hx2 hx3 iN
  go_wp2_with fail
  go_loopw [7] (fun v7 wr => ∃ k : Nat, k ≤ m ∧ v7 = .int .i64 k ∧ Blk wr (w.heap.size + 1 + 1 + 1) 25 [.int .i64 (rotC k y).1, .int .i64 (rotC k y).2.1, .int .i64 (rotC k y).2.2.1, .int .i64 (rotC k y).2.2.2] ∧ Blk wr (w.heap.size + 1 + 1) 25 [.int .i64 0, .int .i64 0, .int .i64 0, .int .i64 (-1)] ∧ Blk wr (w.heap.size + 1) 25 [.int .i64 0, .int .i64 0, .int .i64 0, .int .i64 0] ∧ Below w.heap.size w wr) (fun v7 _ => m - (intOf v7).toNat)
  case atStart => exact ⟨0, by omega, rfl, iN0, iP, iR, hB⟩
  case round =>
    clear iN0 iP iR hB
    obtain ⟨k, hk, rfl, iN, iP, iR, hB⟩ := hrel
    have hkb : (k : Int) ≤ 11 := by omega
    go_wp2_with fail
    refine (TF.out wr).mono ?_
    rintro e w' ⟨rfl, rfl⟩
    by_cases hlt : k < m
    · have hQ : rotC (k + 1) y = (cy0 (rotC k y).1 (rotC k y).2.1 (rotC k y).2.2.1 (rotC k y).2.2.2 0 0 0 (-1), cy1 (rotC k y).1 (rotC k y).2.1 (rotC k y).2.2.1 (rotC k y).2.2.2 0 0 0 (-1), cy2 (rotC k y).1 (rotC k y).2.1 (rotC k y).2.2.1 (rotC k y).2.2.2 0 0 0 (-1), cy3 (rotC k y).1 (rotC k y).2.1 (rotC k y).2.2.1 (rotC k y).2.2.2 0 0 0 (-1)) := rfl
      generalize (rotC k y).1 = u0 at hQ iN
      generalize (rotC k y).2.1 = u1 at hQ iN
      generalize (rotC k y).2.2.1 = u2 at hQ iN
      generalize (rotC k y).2.2.2 = u3 at hQ iN
      have TM := Lib.hid (fun W => timesCR_any u0 u1 u2 u3 0 0 0 (-1) W)
      generalize cy0 u0 u1 u2 u3 0 0 0 (-1) = m0 at TM hQ
      generalize cy1 u0 u1 u2 u3 0 0 0 (-1) = m1 at TM hQ
      generalize cy2 u0 u1 u2 u3 0 0 0 (-1) = m2 at TM hQ
      generalize cy3 u0 u1 u2 u3 0 0 0 (-1) = m3 at TM hQ
      have HQ := Lib.hid hQ
      clear hQ
      have d1 : (k : Int) < (m : Int) := by omega
      have c0 := iN.cell (j := 0) (v := .int .i64 u0) rfl
      have c1 := iN.cell (j := 1) (v := .int .i64 u1) rfl
      have c2 := iN.cell (j := 2) (v := .int .i64 u2) rfl
      have c3 := iN.cell (j := 3) (v := .int .i64 u3) rfl
      have p0 := iP.cell (j := 0) (v := .int .i64 0) rfl
      have p1 := iP.cell (j := 1) (v := .int .i64 0) rfl
      have p2 := iP.cell (j := 2) (v := .int .i64 0) rfl
      have p3 := iP.cell (j := 3) (v := .int .i64 (-1)) rfl
      go_wp2_with fail
      clear c0 c1 c2 c3 p0 p1 p2 p3
      refine (TM.out wr).mono ?_
      rintro e w7 ⟨rfl, hl⟩
      replace iN := iN.carry hl
      replace iP := iP.carry hl
      replace iR := iR.carry hl
      replace hB := bthen hB hl
      clear hl
      have c0 := iN.cell (j := 0) (v := .int .i64 u0) rfl
      have c1 := iN.cell (j := 1) (v := .int .i64 u1) rfl
      have c2 := iN.cell (j := 2) (v := .int .i64 u2) rfl
      have c3 := iN.cell (j := 3) (v := .int .i64 u3) rfl
      have f0 := iN.frozen 0
      have f1 := iN.frozen 1
      have f2 := iN.frozen 2
      have f3 := iN.frozen 3
      go_wp2_with fail
      have iN2 := (((iN.set 0 (.int .i64 m0)).set 1 (.int .i64 m1)).set 2 (.int .i64 m2)).set 3 (.int .i64 m3)
      have iP2 := (((iP.other (B' := w.heap.size + 1 + 1 + 1) (j := 0) (by omega) (.int .i64 m0)).other (B' := w.heap.size + 1 + 1 + 1) (j := 1) (by omega) (.int .i64 m1)).other (B' := w.heap.size + 1 + 1 + 1) (j := 2) (by omega) (.int .i64 m2)).other (B' := w.heap.size + 1 + 1 + 1) (j := 3) (by omega) (.int .i64 m3)
      have iR2 := (((iR.other (B' := w.heap.size + 1 + 1 + 1) (j := 0) (by omega) (.int .i64 m0)).other (B' := w.heap.size + 1 + 1 + 1) (j := 1) (by omega) (.int .i64 m1)).other (B' := w.heap.size + 1 + 1 + 1) (j := 2) (by omega) (.int .i64 m2)).other (B' := w.heap.size + 1 + 1 + 1) (j := 3) (by omega) (.int .i64 m3)
      have hB2 := (((hB.setCell (p := ⟨w.heap.size + 1 + 1 + 1, 0, none⟩) (by simp; omega) (.int .i64 m0)).setCell (p := ⟨w.heap.size + 1 + 1 + 1, 1, none⟩) (by simp; omega) (.int .i64 m1)).setCell (p := ⟨w.heap.size + 1 + 1 + 1, 2, none⟩) (by simp; omega) (.int .i64 m2)).setCell (p := ⟨w.heap.size + 1 + 1 + 1, 3, none⟩) (by simp; omega) (.int .i64 m3)
      go_roundw
      case rel => exact ⟨k + 1, by omega, by go_num, by rw [HQ.out]; exact iN2, iP2, iR2, hB2⟩
      case measure => simp [intOf]; omega
    · obtain rfl : k = m := by omega
      have hT4 : T = ((rotC k y).1, (rotC k y).2.1, (rotC k y).2.2.1, (rotC k y).2.2.2) := HT.out
      generalize (rotC k y).1 = u0 at hT4 iN
      generalize (rotC k y).2.1 = u1 at hT4 iN
      generalize (rotC k y).2.2.1 = u2 at hT4 iN
      generalize (rotC k y).2.2.2 = u3 at hT4 iN
      have HT4 := Lib.hid hT4
      clear hT4
      have d1 : ¬ (k : Int) < (k : Int) := by omega
      have c0 := iN.cell (j := 0) (v := .int .i64 u0) rfl
      have c1 := iN.cell (j := 1) (v := .int .i64 u1) rfl
      have c2 := iN.cell (j := 2) (v := .int .i64 u2) rfl
      have c3 := iN.cell (j := 3) (v := .int .i64 u3) rfl
      have b0 := iR.cell (j := 0) (v := .int .i64 0) rfl
      have b1 := iR.cell (j := 1) (v := .int .i64 0) rfl
      have b2 := iR.cell (j := 2) (v := .int .i64 0) rfl
      have b3 := iR.cell (j := 3) (v := .int .i64 0) rfl
      have f0 := iR.frozen 0
      have f1 := iR.frozen 1
      have f2 := iR.frozen 2
      have f3 := iR.frozen 3
      go_wp2_with fail
      have h9 := (((iR.set 0 (.int .i64 u0)).set 1 (.int .i64 u1)).set 2 (.int .i64 u2)).set 3 (.int .i64 u3)
      have z0 := h9.cell (j := 0) (v := .int .i64 u0) rfl
      have z1 := h9.cell (j := 1) (v := .int .i64 u1) rfl
      have z2 := h9.cell (j := 2) (v := .int .i64 u2) rfl
      have z3 := h9.cell (j := 3) (v := .int .i64 u3) rfl
      exact bodyPost_ret (v := .agg #[.int .i64 u0, .int .i64 u1, .int .i64 u2, .int .i64 u3]) (by simp [results, Tryz.f48, go_sem, z0, z1, z2, z3]) rfl ⟨by rw [HT4.out]; rfl, (((hB.setCell (by simp; try omega) _).setCell (by simp; try omega) _).setCell (by simp; try omega) _).setCell (by simp; try omega) _⟩

end Go.Proofs.YtfeajpkjjlddlaaGreatDoor

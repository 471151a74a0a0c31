/- Plain facts of the law LoopRoots: products, asked one by one. -/
import Derived.Test.YtnlmaildmeihgaaGreatDoorPlainR
namespace Go.Proofs.YtnlmaildmeihgaaGreatDoor
open Go.RowKit

theorem wsm {x : Int} (h : -4000000000000000000 ≤ x ∧ x ≤ 4000000000000000000) : wrap64 x = x := by unfold wrap64; omega
theorem mulN {x y : Int} {A B : Nat} (hx : x.natAbs ≤ A) (hy : y.natAbs ≤ B) : (x * y).natAbs ≤ A * B := by rw [Int.natAbs_mul]; exact Nat.mul_le_mul hx hy
theorem next3 {b0 b1 b2 b3 : Int} (h0 : b0.natAbs ≤ 100) (h1 : b1.natAbs ≤ 100) (h2 : b2.natAbs ≤ 100) (h3 : b3.natAbs ≤ 100) : nextL [b0, b1, b2, b3] = [b3 * b1 - b0 * b2, b3 * b2 - b0 * b1, b3 * b3 - b0 * b0] := by
  have a1 := mulN h3 h1
  have a2 := mulN h0 h2
  have a3 := mulN h3 h2
  have a4 := mulN h0 h1
  have a5 := mulN h3 h3
  have a6 := mulN h0 h0
  simp [nextL, upto, List.range_succ, nextAt]
  rw [wsm (x := b3 * b1) (by omega), wsm (x := b0 * b2) (by omega), wsm (x := b3 * b2) (by omega), wsm (x := b0 * b1) (by omega), wsm (x := b3 * b3) (by omega), wsm (x := b0 * b0) (by omega)]
  exact ⟨wsm (by omega), wsm (by omega), wsm (by omega)⟩
theorem next2 {c0 c1 c2 : Int} (h0 : c0.natAbs ≤ 20000) (h1 : c1.natAbs ≤ 20000) (h2 : c2.natAbs ≤ 20000) : nextL [c0, c1, c2] = [c2 * c1 - c0 * c1, c2 * c2 - c0 * c0] := by
  have a1 := mulN h2 h1
  have a2 := mulN h0 h1
  have a3 := mulN h2 h2
  have a4 := mulN h0 h0
  simp [nextL, upto, List.range_succ, nextAt]
  rw [wsm (x := c2 * c1) (by omega), wsm (x := c0 * c1) (by omega), wsm (x := c2 * c2) (by omega), wsm (x := c0 * c0) (by omega)]
  exact ⟨wsm (by omega), wsm (by omega)⟩
theorem abs_nat {x : Int} (h : x.natAbs ≤ 4000000000) : absW x = (x.natAbs : Int) := by
  have : wrap64 (-x) = -x := wsm (by omega)
  unfold absW; rw [this]; omega
/-- does the first one reach the last one? -/
def reach (a b : Int) : Bool := Nat.ble b.natAbs a.natAbs
theorem reach_eq {a b : Int} (ha : a.natAbs ≤ 4000000000) (hb : b.natAbs ≤ 4000000000) : decide (absW b ≤ absW a) = reach a b := by
  rw [abs_nat ha, abs_nat hb, reach]
  by_cases h : b.natAbs ≤ a.natAbs
  · rw [Nat.ble_eq_true_of_le h]; exact decide_eq_true (by omega)
  · rw [show Nat.ble b.natAbs a.natAbs = false from by rw [Bool.eq_false_iff]; exact fun h2 => h (Nat.le_of_ble_eq_true h2)]; exact decide_eq_false (by omega)
/-- the table of a polynomial of the degree 3, in numbers. -/
def fast (b0 b1 b2 b3 : Int) : Bool :=
  !(reach b0 b3) && (let c0 := b3 * b1 - b0 * b2; let c1 := b3 * b2 - b0 * b1; let c2 := b3 * b3 - b0 * b0
    !(reach c0 c2) && !(reach (c2 * c1 - c0 * c1) (c2 * c2 - c0 * c0)))
theorem fast_eq {b0 b1 b2 b3 : Int} (h0 : b0.natAbs ≤ 100) (h1 : b1.natAbs ≤ 100) (h2 : b2.natAbs ≤ 100) (h3 : b3.natAbs ≤ 100) : stableB [b0, b1, b2, b3] = fast b0 b1 b2 b3 := by
  have n1 := next3 h0 h1 h2 h3
  have a1 := mulN h3 h1
  have a2 := mulN h0 h2
  have a3 := mulN h3 h2
  have a4 := mulN h0 h1
  have a5 := mulN h3 h3
  have a6 := mulN h0 h0
  have k0 : (b3 * b1 - b0 * b2).natAbs ≤ 20000 := by omega
  have k1 : (b3 * b2 - b0 * b1).natAbs ≤ 20000 := by omega
  have k2 : (b3 * b3 - b0 * b0).natAbs ≤ 20000 := by omega
  have n2 := next2 k0 k1 k2
  have f1 : failsB [b0, b1, b2, b3] = reach b0 b3 := by show decide (absW b3 ≤ absW b0) = _; exact reach_eq (by omega) (by omega)
  unfold fast
  simp only
  generalize b3 * b1 - b0 * b2 = c0 at *
  generalize b3 * b2 - b0 * b1 = c1 at *
  generalize b3 * b3 - b0 * b0 = c2 at *
  have p1 := mulN k2 k1
  have p2 := mulN k0 k1
  have p3 := mulN k2 k2
  have p4 := mulN k0 k0
  have f2 : failsB [c0, c1, c2] = reach c0 c2 := by show decide (absW c2 ≤ absW c0) = _; exact reach_eq (by omega) (by omega)
  have f3 : failsB [c2 * c1 - c0 * c1, c2 * c2 - c0 * c0] = reach (c2 * c1 - c0 * c1) (c2 * c2 - c0 * c0) := by show decide (absW (c2 * c2 - c0 * c0) ≤ absW (c2 * c1 - c0 * c1)) = _; exact reach_eq (by omega) (by omega)
  rw [stableB, tableW, show [b0, b1, b2, b3].length = 4 from rfl, tableL, if_neg (by simp), f1]
  cases r1 : reach b0 b3
  · rw [if_neg (by simp), List.any_cons, f1, r1, n1, tableL, if_neg (by simp), f2]
    cases r2 : reach c0 c2
    · rw [if_neg (by simp), List.any_cons, f2, r2, n2, tableL, if_neg (by simp), f3]
      cases r3 : reach (c2 * c1 - c0 * c1) (c2 * c2 - c0 * c0)
      · rw [if_neg (by simp), List.any_cons, f3, r3, tableL_stop _ _ (by simp [nextL, upto_length])]
        rfl
      · simp [f3, r3]
    · simp [f2, r2]
  · simp [f1, r1]

/-- the product, in numbers. -/
theorem both_times {r d x y p : Int} (hr : -9 ≤ r ∧ r ≤ 9) (hd : 1 ≤ d ∧ d ≤ 9) (hx : -5 ≤ x ∧ x ≤ 5) (hy : -5 ≤ y ∧ y ≤ 5) (hp : 1 ≤ p ∧ p ≤ 7) :
    timesW (rLine r d) (rPair x y p) = [-r * (x * x + y * y), -r * (-2 * p * x) + d * (x * x + y * y), -r * (p * p) + d * (-2 * p * x), d * (p * p)] := by
  have q1 : (x * x).natAbs ≤ 25 := mulN (A := 5) (B := 5) (by omega) (by omega)
  have q2 : (y * y).natAbs ≤ 25 := mulN (A := 5) (B := 5) (by omega) (by omega)
  have q3 : (-2 * p * x).natAbs ≤ 70 := mulN (A := 14) (B := 5) (by omega) (by omega)
  have q4 : (p * p).natAbs ≤ 49 := mulN (A := 7) (B := 7) (by omega) (by omega)
  unfold rLine rPair
  have h0 : (-r).natAbs ≤ 9 := by omega
  have h1 : d.natAbs ≤ 9 := by omega
  have k0 : (x * x + y * y).natAbs ≤ 50 := by omega
  generalize x * x + y * y = c at *
  generalize -2 * p * x = m at *
  generalize p * p = pp at *
  generalize -r = l at *
  have a1 := mulN h0 k0
  have a2 := mulN h0 q3
  have a3 := mulN h0 q4
  have a4 := mulN h1 k0
  have a5 := mulN h1 q3
  have a6 := mulN h1 q4
  simp [timesW, tOuter, tInner, List.replicate]
  rw [wsm (x := l * c) (by omega), wsm (x := l * m) (by omega), wsm (x := l * pp) (by omega), wsm (x := d * c) (by omega), wsm (x := d * m) (by omega), wsm (x := d * pp) (by omega)]
  simp (disch := omega) only [wsm]
  simp

def fastB (r d x y p : Int) : Bool :=
  let c := x * x + y * y; let m := -2 * p * x; let pp := p * p
  let b0 := -r * c; let b1 := -r * m + d * c; let b2 := -r * pp + d * m; let b3 := d * pp
  Nat.ble 101 b0.natAbs || Nat.ble 101 b1.natAbs || Nat.ble 101 b2.natAbs || Nat.ble 101 b3.natAbs || (fast b0 b1 b2 b3 == (!(reach r d) && Nat.blt c.natAbs pp.natAbs))

set_option maxRecDepth 100000 in
theorem fast_all : ((List.range 19).all fun a => (List.range 9).all fun b => (List.range 11).all fun c => (List.range 6).all fun e => (List.range 7).all fun f => fastB ((a : Int) - 9) ((b : Int) + 1) ((c : Int) - 5) (e : Int) ((f : Int) + 1)) = true := by decide +kernel

theorem fast_of {r d x y p : Int} (hr : -9 ≤ r ∧ r ≤ 9) (hd : 1 ≤ d ∧ d ≤ 9) (hx : -5 ≤ x ∧ x ≤ 5) (hy : -5 ≤ y ∧ y ≤ 5) (hp : 1 ≤ p ∧ p ≤ 7) : fastB r d x y p = true := by
  have h := fast_all
  simp only [List.all_eq_true, List.mem_range] at h
  have h1 := h (r + 9).toNat (by omega) (d - 1).toNat (by omega) (x + 5).toNat (by omega) y.natAbs (by omega) (p - 1).toNat (by omega)
  rw [show ((r + 9).toNat : Int) - 9 = r from by omega, show ((d - 1).toNat : Int) + 1 = d from by omega, show ((x + 5).toNat : Int) - 5 = x from by omega, show ((p - 1).toNat : Int) + 1 = p from by omega] at h1
  have hyy : (y.natAbs : Int) * (y.natAbs : Int) = y * y := Int.natAbs_mul_self' y
  unfold fastB at h1 ⊢
  rw [hyy] at h1
  exact h1
theorem reach_all : ((List.range 19).all fun a => (List.range 9).all fun b => (!(reach ((a : Int) - 9) ((b : Int) + 1))) == decide (((a : Int) - 9) * ((a : Int) - 9) < ((b : Int) + 1) * ((b : Int) + 1))) = true := by decide +kernel
theorem reach_of {r d : Int} (hr : -9 ≤ r ∧ r ≤ 9) (hd : 1 ≤ d ∧ d ≤ 9) : (!(reach r d)) = decide (r * r < d * d) := by
  have h := reach_all
  simp only [List.all_eq_true, List.mem_range] at h
  have h1 := h (r + 9).toNat (by omega) (d - 1).toNat (by omega)
  rw [show ((r + 9).toNat : Int) - 9 = r from by omega, show ((d - 1).toNat : Int) + 1 = d from by omega] at h1
  exact eq_of_beq h1
theorem ble_no {a : Nat} (h : a ≤ 100) : Nat.ble 101 a = false := by
  rw [Bool.eq_false_iff]
  intro h2
  have := Nat.le_of_ble_eq_true h2
  omega
theorem both_of {r d x y p : Int} (hr : -9 ≤ r ∧ r ≤ 9) (hd : 1 ≤ d ∧ d ≤ 9) (hx : -5 ≤ x ∧ x ≤ 5) (hy : -5 ≤ y ∧ y ≤ 5) (hp : 1 ≤ p ∧ p ≤ 7) : bothB r d x y p = true := by
  have ht := both_times hr hd hx hy hp
  have hf := fast_of hr hd hx hy hp
  have hrd := reach_of hr hd
  have q1 : (x * x).natAbs ≤ 25 := mulN (A := 5) (B := 5) (by omega) (by omega)
  have c0 : 0 ≤ x * x + y * y := by
    have h1 : x * x = ((x.natAbs * x.natAbs : Nat) : Int) := by rw [Int.natCast_mul, Int.natAbs_mul_self']
    have h2 : y * y = ((y.natAbs * y.natAbs : Nat) : Int) := by rw [Int.natCast_mul, Int.natAbs_mul_self']
    omega
  have p0 : 0 ≤ p * p := by
    have h2 : p * p = ((p.natAbs * p.natAbs : Nat) : Int) := by rw [Int.natCast_mul, Int.natAbs_mul_self']
    omega
  unfold bothB
  rw [ht]
  unfold fastB at hf
  simp only at hf
  rw [hrd] at hf
  generalize x * x + y * y = c at *
  generalize -2 * p * x = m at *
  generalize p * p = pp at *
  have hb : Nat.blt c.natAbs pp.natAbs = decide (c < pp) := by
    by_cases h : c < pp
    · rw [decide_eq_true h]; exact Nat.ble_eq_true_of_le (by omega)
    · rw [decide_eq_false h, Bool.eq_false_iff]
      intro h2
      have : c.natAbs < pp.natAbs := Nat.le_of_ble_eq_true h2
      omega
  rw [hb] at hf
  generalize -r * c = b0 at *
  generalize -r * m + d * c = b1 at *
  generalize -r * pp + d * m = b2 at *
  generalize d * pp = b3 at *
  by_cases hL : [b0, b1, b2, b3].any largeB = true
  · rw [hL]; rfl
  · have hL' : [b0, b1, b2, b3].any largeB = false := by simpa using hL
    have hbd := large_bd hL'
    have h0 := hbd b0 (by simp)
    have h1 := hbd b1 (by simp)
    have h2 := hbd b2 (by simp)
    have h3 := hbd b3 (by simp)
    rw [ble_no (a := b0.natAbs) (by omega), ble_no (a := b1.natAbs) (by omega), ble_no (a := b2.natAbs) (by omega), ble_no (a := b3.natAbs) (by omega)] at hf
    rw [hL', fast_eq (by omega) (by omega) (by omega) (by omega)]
    simpa using hf

end Go.Proofs.YtnlmaildmeihgaaGreatDoor

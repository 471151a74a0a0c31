/- Plain facts of the law LoopRoots: polynomials with known roots. -/
import Derived.Test.YtnlmaildmeihgaaGreatDoorMem
namespace Go.Proofs.YtnlmaildmeihgaaGreatDoor
open Go.RowKit

/-- a line with the root r / d. -/
def rLine (r d : Int) : List Int := [-r, d]
/-- a pair of roots. -/
def rPair (x y p : Int) : List Int := [x * x + y * y, -2 * p * x, p * p]
def lineB (r d : Int) : Bool :=
  checkPolyE (rLine r d) == 0 && (stableB (rLine r d) == decide (r * r < d * d)) && (checkTableE (rLine r d) (tableW (rLine r d)) == if r * r < d * d then 0 else 19) && checkTableE [0, 1, 1] (tableW (rLine r d)) == 19 &&
  (scaledE (rLine r d) 2 1 != 0 || (checkPolyE (scaledR (rLine r d) 2 1) == 0 && (stableB (scaledR (rLine r d) 2 1) == decide (4 * r * r < d * d)) && within2E (rLine r d) 1 2 == 0 && (within2R (rLine r d) 1 2 == decide (4 * r * r < d * d))))
def pairB (x y p : Int) : Bool := checkPolyE (rPair x y p) == 0 && (stableB (rPair x y p) == decide (x * x + y * y < p * p))
def bothB (r d x y p : Int) : Bool := (timesW (rLine r d) (rPair x y p)).any largeB || (stableB (timesW (rLine r d) (rPair x y p)) == (decide (r * r < d * d) && decide (x * x + y * y < p * p)))

set_option maxRecDepth 100000 in
theorem line_all : ((List.range 19).all fun a => (List.range 9).all fun b => lineB ((a : Int) - 9) ((b : Int) + 1)) = true := by decide +kernel
set_option maxRecDepth 100000 in
theorem pair_all : ((List.range 11).all fun a => (List.range 11).all fun b => (List.range 7).all fun c => pairB ((a : Int) - 5) ((b : Int) - 5) ((c : Int) + 1)) = true := by decide +kernel

theorem line_of {r d : Int} (hr : -9 ≤ r ∧ r ≤ 9) (hd : 1 ≤ d ∧ d ≤ 9) : lineB r d = true := by
  have h := line_all
  simp only [List.all_eq_true, List.mem_range] at h
  have h1 := h (r + 9).toNat (by omega) (d - 1).toNat (by omega)
  rw [show ((r + 9).toNat : Int) - 9 = r from by omega, show ((d - 1).toNat : Int) + 1 = d from by omega] at h1
  exact h1
theorem pair_of {x y p : Int} (hx : -5 ≤ x ∧ x ≤ 5) (hy : -5 ≤ y ∧ y ≤ 5) (hp : 1 ≤ p ∧ p ≤ 7) : pairB x y p = true := by
  have h := pair_all
  simp only [List.all_eq_true, List.mem_range] at h
  have h1 := h (x + 5).toNat (by omega) (y + 5).toNat (by omega) (p - 1).toNat (by omega)
  rw [show ((x + 5).toNat : Int) - 5 = x from by omega, show ((y + 5).toNat : Int) - 5 = y from by omega, show ((p - 1).toNat : Int) + 1 = p from by omega] at h1
  exact h1

/-- a product of two polynomials, up to its largest coefficients. -/
theorem prod_gen {p q : List Int} (hp : checkPolyE p = 0) (hq : checkPolyE q = 0) (hl : p.length + q.length ≤ 6) : (prodE p q = 0 ∧ prodR p q = timesW p q ∧ checkPolyE (timesW p q) = 0 ∧ (timesW p q).any largeB = false) ∨ prodE p q = 4 := by
  have h1 : prod1E p q = 0 := firstE_zero fun x hx => by
    simp only [List.mem_cons, List.not_mem_nil, or_false] at hx
    rcases hx with rfl | rfl
    · exact hp
    · exact hq
  have hl1 := timesW_length p q
  have lp := checkPolyE_ok hp
  have lq := checkPolyE_ok hq
  obtain ⟨bp, tp⟩ := checkPolyE_range hp
  obtain ⟨bq, tq⟩ := checkPolyE_range hq
  by_cases hL : (timesW p q).any largeB = true
  · right
    rw [prodE, if_neg (by rw [h1]; simp), if_neg (by omega), if_pos hL]
  · left
    have hE : prodE p q = 0 := by rw [prodE, if_neg (by rw [h1]; simp), if_neg (by omega), if_neg hL]
    refine ⟨hE, by rw [prodR, if_neg (by rw [hE]; simp)], ?_, by simpa using hL⟩
    refine checkPolyE_intro (by omega) (by omega) (large_bd (by simpa using hL)) ?_
    have ht := timesW_top p q (by omega) (by omega)
    rw [show (timesW p q).length - 1 = p.length + q.length - 2 by omega, ht]
    exact mul_ne (get_bd bp _) (get_bd bq _) tp tq

end Go.Proofs.YtnlmaildmeihgaaGreatDoor

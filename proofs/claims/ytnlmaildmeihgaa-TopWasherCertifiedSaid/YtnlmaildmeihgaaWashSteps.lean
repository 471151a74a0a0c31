/- Plain facts: the steps of a product of two polynomials of the degree 1 hold the steps of one of them. -/
import Derived.Test.YtnlmaildmeihgaaWashFacts
namespace Go.Proofs.Ytnlmaildmeihgaa
open Go.RowKit

theorem w64 (x : Int) (h : -4611686018427387904 ≤ x ∧ x ≤ 4611686018427387904) : wrap64 x = x := IntWalk.wrap64_in x (by omega)

theorem abs_bd {x : Int} {n : Nat} (h : x.natAbs ≤ n) : -(n : Int) ≤ x ∧ x ≤ n := by omega

theorem geo_bd (c x : Int) (C X : Nat) (hc : c.natAbs ≤ C) (hx : x.natAbs ≤ X) (i : Nat) : (c * x ^ i).natAbs ≤ C * X ^ i := by
  rw [Int.natAbs_mul, Int.natAbs_pow]
  exact Nat.mul_le_mul hc (Nat.pow_le_pow_left hx i)

def geo (c x : Int) (t : Nat) : List Int := (List.range t).map fun i => c * x ^ i
theorem geo_length (c x : Int) (t : Nat) : (geo c x t).length = t := by simp [geo]
theorem geo_get (c x : Int) (t i : Nat) (h : i < t) : (geo c x t)[i]?.getD 0 = c * x ^ i := by simp [geo, h]
theorem geo_succ (c x : Int) (t : Nat) : geo c x (t + 1) = geo c x t ++ [c * x ^ t] := by simp [geo, List.range_succ]

theorem steps1 (p0 p1 c : Int) (hp0 : p0.natAbs ≤ 4) (hc : c.natAbs ≤ 80) : ∀ t, t ≤ 6 → stepL [p0, p1] [c] 1 t = some (geo c (-p0) t) := by
  intro t
  induction t with
  | zero => intro _; rfl
  | succ t ih =>
    intro ht
    have hb := geo_bd c (-p0) 80 4 hc (by simpa using hp0) t
    have h4 : 80 * 4 ^ t ≤ 80 * 4 ^ 5 := Nat.mul_le_mul_left _ (Nat.pow_le_pow_right (by omega) (by omega))
    have hv : stepVal [p0, p1] [c] (geo c (-p0) t) 1 t = c * (-p0) ^ t := by
      cases t with
      | zero =>
        simp [stepVal, powW]
        exact w64 c (by omega)
      | succ t =>
        have hb' := geo_bd c (-p0) 80 4 hc (by simpa using hp0) t
        have h4' : 80 * 4 ^ t ≤ 80 * 4 ^ 5 := Nat.mul_le_mul_left _ (Nat.pow_le_pow_right (by omega) (by omega))
        have e1 : (p0 * (c * (-p0) ^ t)) = -(c * (-p0) ^ (t + 1)) := by rw [Int.pow_succ]; grind
        have e2 : stepIn [p0, p1] (geo c (-p0) (t + 1)) 1 (t + 1) 1 = wrap64 (0 - wrap64 (wrap64 (p0 * (c * (-p0) ^ t)) * 1)) := by
          simp only [stepIn, powW, List.getElem?_cons_zero, Option.getD_some]
          rw [show t + 1 - 1 + 0 = t from by omega, geo_get _ _ _ _ (by omega)]
          rfl
        rw [stepVal, if_neg (by omega), e2, e1]
        generalize c * (-p0) ^ (t + 1) = y at hb ⊢
        rw [w64 (-y) (by omega), Int.mul_one, w64 (-y) (by omega), w64 _ (by omega)]
        omega
    have hin : inB (stepVal [p0, p1] [c] (geo c (-p0) t) 1 t) := by
      rw [hv]
      generalize c * (-p0) ^ t = y at hb
      unfold inB; omega
    rw [stepL_yes (ih (by omega)) hin, hv, geo_succ]

theorem steps2 (m0 m1 m2 c d z : Int) (h0 : m0.natAbs ≤ 16) (h1 : m1.natAbs ≤ 32) (h2 : m2.natAbs ≤ 16) (hc : c.natAbs ≤ 80) (hz : z.natAbs ≤ 16) (hd : d * m2 = c * z) (hdd : d.natAbs ≤ 80) (hroot : z * z + m1 * z + m0 * m2 = 0) :
    ∀ t, t ≤ 6 → stepL [m0, m1, m2] [c, d] 2 t = some (geo c z t) := by
  intro t
  induction t with
  | zero => intro _; rfl
  | succ t ih =>
    intro ht
    have hb := geo_bd c z 80 16 hc hz t
    have h4 : 80 * 16 ^ t ≤ 80 * 16 ^ 5 := Nat.mul_le_mul_left _ (Nat.pow_le_pow_right (by omega) (by omega))
    have hv : stepVal [m0, m1, m2] [c, d] (geo c z t) 2 t = c * z ^ t := by
      rcases t with _ | _ | t
      · simp [stepVal, powW]
        exact w64 c (by omega)
      · have e : stepVal [m0, m1, m2] [c, d] (geo c z (0 + 1)) 2 (0 + 1) = wrap64 (d * wrap64 (1 * m2)) := rfl
        have hz1 : c * z ^ (0 + 1) = c * z := by simp [Int.pow_succ]
        rw [hz1] at hb
        rw [e, Int.one_mul, w64 m2 (by omega), hd, w64 (c * z) (by omega), hz1]
      · have hb1 := geo_bd c z 80 16 hc hz t
        have h41 : 80 * 16 ^ t ≤ 80 * 16 ^ 5 := Nat.mul_le_mul_left _ (Nat.pow_le_pow_right (by omega) (by omega))
        have hb2 := geo_bd c z 80 16 hc hz (t + 1)
        have h42 : 80 * 16 ^ (t + 1) ≤ 80 * 16 ^ 5 := Nat.mul_le_mul_left _ (Nat.pow_le_pow_right (by omega) (by omega))
        have e2 : stepIn [m0, m1, m2] (geo c z (t + 1 + 1)) 2 (t + 1 + 1) 2 = wrap64 (wrap64 (0 - wrap64 (wrap64 (m0 * (c * z ^ t)) * wrap64 (1 * m2))) - wrap64 (wrap64 (m1 * (c * z ^ (t + 1))) * 1)) := by
          simp only [stepIn, powW, List.getElem?_cons_zero, List.getElem?_cons_succ, Option.getD_some]
          rw [show t + 1 + 1 - 2 + 0 = t from by omega, show t + 1 + 1 - 2 + 1 = t + 1 from by omega, geo_get _ _ _ _ (by omega), geo_get _ _ _ _ (by omega)]
          rfl
        have e3 : c * z ^ (t + 1 + 1) = -(m0 * (c * z ^ t) * m2) - m1 * (c * z ^ (t + 1)) := by
          rw [Int.pow_succ, Int.pow_succ]; grind
        have k0 : (m0 * (c * z ^ t)).natAbs ≤ 16 * (80 * 16 ^ 5) := by rw [Int.natAbs_mul]; exact Nat.mul_le_mul h0 (Nat.le_trans hb1 h41)
        have k1 : (m1 * (c * z ^ (t + 1))).natAbs ≤ 32 * (80 * 16 ^ 5) := by rw [Int.natAbs_mul]; exact Nat.mul_le_mul h1 (Nat.le_trans hb2 h42)
        have k2 : (m0 * (c * z ^ t) * m2).natAbs ≤ 16 * (80 * 16 ^ 5) * 16 := by rw [Int.natAbs_mul]; exact Nat.mul_le_mul k0 h2
        rw [stepVal, if_neg (by omega), e2, e3]
        rw [Int.one_mul, w64 m2 (by omega), w64 (m0 * (c * z ^ t)) (by omega), w64 (m0 * (c * z ^ t) * m2) (by omega), w64 (0 - m0 * (c * z ^ t) * m2) (by omega), w64 (m1 * (c * z ^ (t + 1))) (by omega), Int.mul_one, w64 (m1 * (c * z ^ (t + 1))) (by omega), w64 _ (by omega)]
        omega
    have hin : inB (stepVal [m0, m1, m2] [c, d] (geo c z t) 2 t) := by
      rw [hv]
      generalize c * z ^ t = y at hb
      unfold inB; omega
    rw [stepL_yes (ih (by omega)) hin, hv, geo_succ]

theorem value_poly {p : List Int} {zr zi : Int} (h : valueE p zr zi = 0) : checkPolyE p = 0 := (firstE_cons_ok h).1

theorem fact_value {p0 p1 q0 q1 : Int} (hp0 : -4 ≤ p0 ∧ p0 ≤ 4) (hp1 : 1 ≤ p1 ∧ p1 ≤ 4) (hq0 : -4 ≤ q0 ∧ q0 ≤ 4) (hq1 : 1 ≤ q1 ∧ q1 ≤ 4) : valueE [p0, p1] (qrt 0).1 (qrt 0).2 = 0 := by
  have hfact := fact_of hp0 hp1 hq0 hq1
  simp only [factB, Bool.and_eq_true, beq_iff_eq, List.all_eq_true, List.mem_range] at hfact
  exact (hfact.2 0 (by omega)).1.1.2

theorem stepped_of {p l r : List Int} {n st : Nat} (hc : checkPolyE p = 0) (hn : p.length = n + 1) (hn1 : 1 ≤ n) (hl : l.length = n) (hb : ∀ x ∈ l, -1000 ≤ x ∧ x ≤ 1000) (hst : st ≤ 24) (h : stepL p l n (n + st) = some r) : steppedE p l st = 0 ∧ steppedR p l st = r := by
  have hw : ∀ x ∈ l, withinE x (-1000) 1000 = 0 := fun x hx => by have := hb x hx; unfold withinE; rw [if_neg (by omega)]
  have hf : ∀ l : List Int, (∀ x ∈ l, withinE x (-1000) 1000 = 0) → firstE (l.map fun x => withinE x (-1000) 1000) = 0 := fun l => by
    induction l with
    | nil => intro _; rfl
    | cons x l ih => intro h; simp only [List.map_cons, firstE, h x (by simp), if_true]; exact ih (fun y hy => h y (by simp [hy]))
  have h1 : checkFirstE p l = 0 := by rw [checkFirstE, if_neg (by omega)]; exact hf l hw
  have h2 : withinE (st : Int) 0 24 = 0 := by unfold withinE; rw [if_neg (by omega)]
  have h3 : whenE (((p.length - 1 : Nat) : Int) == 0) 12 = 0 := by
    have : (((p.length - 1 : Nat) : Int) == 0) = false := by rw [beq_eq_false_iff_ne]; omega
    rw [this]; rfl
  have h4 : step2E p l st = 0 := by rw [step2E, h1, h2, h3]; rfl
  have hn' : p.length - 1 = n := by omega
  constructor
  · rw [steppedE, if_neg (by rw [hc]; simp), if_neg (by rw [h4]; simp), hn', Int.toNat_natCast, h]
  · rw [steppedR, if_neg (by rw [hc]; simp), if_neg (by rw [h4]; simp), hn', Int.toNat_natCast, h]; rfl

theorem wash_eq (c x p1 q1 : Int) (i : Nat) : c * x ^ i * (p1 * q1) ^ i = c * (x * q1) ^ i * p1 ^ i := by
  rw [Int.mul_pow, Int.mul_pow]; grind

end Go.Proofs.Ytnlmaildmeihgaa

/- Chapter 4, plain facts: the order of root numbers; what the design keeps. -/
import Derived.Test.YtlohcnecehlljaaGreatDoorHdA
import Derived.Test.YtlohcnecehlljaaGreatDoorHpO
namespace Go.Proofs.YtlohcnecehlljaaGreatDoor
section
set_option linter.unusedSimpArgs false
set_option linter.unusedVariables false
open Go.RowKit

theorem sq3_nat : ∀ n a b : Nat, a ≤ n → a * a = 3 * (b * b) → a = 0
  | 0, a, b, h, _ => by omega
  | n + 1, a, b, h, e => by
    have h3 : a % 3 = 0 := by
      have hm : (a * a) % 3 = 0 := by rw [e]; exact Nat.mul_mod_right _ _
      rw [Nat.mul_mod] at hm
      have : a % 3 = 0 ∨ a % 3 = 1 ∨ a % 3 = 2 := by omega
      rcases this with h | h | h <;> rw [h] at hm <;> simp_all
    obtain ⟨c, rfl⟩ : ∃ c, a = 3 * c := ⟨a / 3, by omega⟩
    have e2 : b * b = 3 * (c * c) := by
      have : 3 * c * (3 * c) = 3 * (3 * (c * c)) := by grind
      omega
    by_cases hc : c = 0
    · omega
    · have hlt : b < 3 * c := by
        rcases Nat.lt_or_ge b (3 * c) with hb | hb
        · exact hb
        · exfalso
          have h1 := Nat.mul_le_mul hb hb
          have h2 : 3 * c * (3 * c) = 9 * (c * c) := by grind
          have h3 : 0 < c * c := Nat.mul_pos (by omega) (by omega)
          omega
      have hb0 := sq3_nat n b c (by omega) e2
      subst hb0
      have h3 : 0 < c * c := Nat.mul_pos (by omega) (by omega)
      omega
/-- the square root of 3 is not a ratio. -/
theorem sq3_int {a b : Int} (h : a * a = 3 * (b * b)) : a = 0 ∧ b = 0 := by
  have e : a.natAbs * a.natAbs = 3 * (b.natAbs * b.natAbs) := by
    have h1 : ((a.natAbs * a.natAbs : Nat) : Int) = a * a := Int.natAbs_mul_self
    have h2 : ((b.natAbs * b.natAbs : Nat) : Int) = b * b := Int.natAbs_mul_self
    omega
  have ha := sq3_nat _ _ _ (Nat.le_refl _) e
  rw [ha] at e
  have hb : b.natAbs = 0 := by
    rcases Nat.eq_zero_or_pos b.natAbs with h | h
    · exact h
    · have := Nat.mul_pos h h; omega
  omega
/-- a root number is above 0. -/
def PosR (a b : Int) : Prop := (0 ≤ a ∧ 0 ≤ b ∧ (a ≠ 0 ∨ b ≠ 0)) ∨ (0 < a ∧ b < 0 ∧ 3 * (b * b) < a * a) ∨ (0 < b ∧ a < 0 ∧ a * a < 3 * (b * b))
theorem sq_pos' {a : Int} (h : a ≠ 0) : 0 < a * a := by
  rcases Int.lt_or_gt_of_ne h with h | h
  · exact Int.mul_pos_of_neg_of_neg h h
  · exact Int.mul_pos h h
theorem sgn_pos (a b : Int) : (0 < sgnR a b) ↔ PosR a b := by
  have e3 : 3 * b * b = 3 * (b * b) := by grind
  unfold sgnR PosR
  rw [e3]
  constructor
  · intro h
    split at h
    · omega
    · rename_i h0
      split at h
      · rename_i h1
        rcases h1 with ⟨x, y⟩ | ⟨x, y⟩ | ⟨x, y⟩
        · left; exact ⟨x, y, by omega⟩
        · by_cases hb : 0 ≤ b
          · left; exact ⟨by omega, hb, by omega⟩
          · right; left; exact ⟨x, by omega, y⟩
        · by_cases ha : 0 ≤ a
          · left; exact ⟨ha, by omega, by omega⟩
          · right; right; exact ⟨x, by omega, y⟩
      · omega
  · intro h
    rw [if_neg (by omega), if_pos]
    · decide
    · rcases h with ⟨x, y, _⟩ | ⟨x, y, z⟩ | ⟨x, y, z⟩
      · exact .inl ⟨x, y⟩
      · exact .inr (.inl ⟨x, z⟩)
      · exact .inr (.inr ⟨x, z⟩)
theorem sgn_neg (a b : Int) : sgnR (-a) (-b) = -sgnR a b := by
  have e3 : 3 * b * b = 3 * (b * b) := by grind
  have e4 : 3 * -b * -b = 3 * (b * b) := by grind
  have e5 : -a * -a = a * a := by grind
  by_cases h0 : a = 0 ∧ b = 0
  · obtain ⟨rfl, rfl⟩ := h0; rfl
  · have hne : a * a ≠ 3 * (b * b) := fun h => h0 (sq3_int h)
    unfold sgnR
    rw [e3, e4, e5, if_neg h0, if_neg (by omega)]
    by_cases h1 : (0 ≤ a ∧ 0 ≤ b) ∨ (0 < a ∧ 3 * (b * b) < a * a) ∨ (0 < b ∧ a * a < 3 * (b * b))
    · rw [if_pos h1, if_neg (by omega)]
    · rw [if_neg h1, if_pos (by omega)]; rfl
/-- the key: both of different signs. -/
theorem mixed {u v C d : Int} (hu : 0 < u) (hv : 0 < v) (hC : 0 ≤ C) (hd : 0 ≤ d) (h1 : 3 * ((u + d) * (u + d)) < (v + C) * (v + C)) (h2 : C * C < 3 * (d * d)) : 3 * (u * u) < v * v := by
  rcases (by omega : 3 * (u * u) < v * v ∨ v * v ≤ 3 * (u * u)) with h | h
  · exact h
  · exfalso
    have h3 : v * C ≤ 3 * (u * d) := by
      rcases (by omega : 3 * (u * d) < v * C ∨ v * C ≤ 3 * (u * d)) with k | k
      · exfalso
        have p0 : 0 ≤ u * d := Int.mul_nonneg (by omega) hd
        have p1 : 3 * (u * d) * (3 * (u * d)) < v * C * (v * C) := by
          have a1 : 3 * (u * d) * (3 * (u * d)) ≤ 3 * (u * d) * (v * C) := Int.mul_le_mul_of_nonneg_left (by omega) (by omega)
          have a2 : 3 * (u * d) * (v * C) < v * C * (v * C) := Int.mul_lt_mul_of_pos_right k (by omega)
          omega
        have p2 : v * v * (C * C) ≤ 3 * (u * u) * (3 * (d * d)) := by
          have a1 : v * v * (C * C) ≤ 3 * (u * u) * (C * C) := Int.mul_le_mul_of_nonneg_right h (Int.mul_nonneg hC hC)
          have a2 : 3 * (u * u) * (C * C) ≤ 3 * (u * u) * (3 * (d * d)) := Int.mul_le_mul_of_nonneg_left (by omega) (by have := Int.mul_pos hu hu; omega)
          omega
        have e1 : v * C * (v * C) = v * v * (C * C) := by grind
        have e2 : 3 * (u * d) * (3 * (u * d)) = 3 * (u * u) * (3 * (d * d)) := by grind
        omega
      · exact k
    have e1 : (u + d) * (u + d) = u * u + 2 * (u * d) + d * d := by grind
    have e2 : (v + C) * (v + C) = v * v + 2 * (v * C) + C * C := by grind
    rw [e1, e2] at h1
    omega
theorem mul_le_sq {x y : Int} (hx : 0 ≤ x) (h : x ≤ y) : x * x ≤ y * y := Int.mul_le_mul h h hx (by omega)
theorem add2 {a B c D : Int} (ha : 0 < a) (hB : 0 ≤ B) (hc : 0 < c) (hD : 0 ≤ D) (h1 : 3 * (B * B) < a * a) (h2 : 3 * (D * D) < c * c) : 3 * ((B + D) * (B + D)) < (a + c) * (a + c) := by
  have h3 : 3 * (B * D) ≤ a * c := by
    rcases (by omega : a * c < 3 * (B * D) ∨ 3 * (B * D) ≤ a * c) with k | k
    · exfalso
      have p0 : 0 ≤ a * c := Int.mul_nonneg (by omega) (by omega)
      have p1 : a * c * (a * c) < 3 * (B * D) * (3 * (B * D)) := by
        have a1 : a * c * (a * c) ≤ a * c * (3 * (B * D)) := Int.mul_le_mul_of_nonneg_left (by omega) p0
        have a2 : a * c * (3 * (B * D)) < 3 * (B * D) * (3 * (B * D)) := Int.mul_lt_mul_of_pos_right k (by omega)
        omega
      have p2 : 3 * (B * B) * (3 * (D * D)) ≤ a * a * (c * c) := by
        have a1 : 3 * (B * B) * (3 * (D * D)) ≤ a * a * (3 * (D * D)) := Int.mul_le_mul_of_nonneg_right (by omega) (by have := Int.mul_nonneg hD hD; omega)
        have a2 : a * a * (3 * (D * D)) ≤ a * a * (c * c) := Int.mul_le_mul_of_nonneg_left (by omega) (Int.mul_nonneg (by omega) (by omega))
        omega
      have e1 : a * c * (a * c) = a * a * (c * c) := by grind
      have e2 : 3 * (B * D) * (3 * (B * D)) = 3 * (B * B) * (3 * (D * D)) := by grind
      omega
    · exact k
  have e1 : (B + D) * (B + D) = B * B + 2 * (B * D) + D * D := by grind
  have e2 : (a + c) * (a + c) = a * a + 2 * (a * c) + c * c := by grind
  rw [e1, e2]
  omega
theorem negsq (a : Int) : -a * -a = a * a := by grind
/-- one of each kind. -/
theorem pos_mix {a b c d : Int} (ha : 0 < a) (hb : b < 0) (h1 : 3 * (b * b) < a * a) (hd : 0 < d) (hc : c < 0) (h2 : c * c < 3 * (d * d)) : PosR (a + c) (b + d) := by
  obtain ⟨B, rfl⟩ : ∃ B, b = -B := ⟨-b, by omega⟩
  obtain ⟨C, rfl⟩ : ∃ C, c = -C := ⟨-c, by omega⟩
  rw [negsq] at h1 h2
  rcases (by omega : (0 < a - C ∧ d - B < 0) ∨ (a - C < 0 ∧ 0 < d - B) ∨ (a - C ≤ 0 ∧ d - B ≤ 0) ∨ (0 ≤ a - C ∧ 0 ≤ d - B ∧ (a - C ≠ 0 ∨ d - B ≠ 0))) with ⟨p, q⟩ | ⟨p, q⟩ | ⟨p, q⟩ | ⟨p, q, r⟩
  · right; left
    refine ⟨by omega, by omega, ?_⟩
    have := mixed (u := B - d) (v := a - C) (C := C) (d := d) (by omega) p (by omega) (by omega) (by rw [show B - d + d = B by omega, show a - C + C = a by omega]; exact h1) h2
    have e1 : (-B + d) * (-B + d) = (B - d) * (B - d) := by grind
    have e2 : (a + -C) * (a + -C) = (a - C) * (a - C) := by grind
    rw [e1, e2]
    exact this
  · right; right
    refine ⟨by omega, by omega, ?_⟩
    have := mixed (u := C - a) (v := 3 * (d - B)) (C := 3 * B) (d := a) (by omega) (by omega) (by omega) (by omega) (by
      rw [show C - a + a = C by omega, show 3 * (d - B) + 3 * B = 3 * d by omega]
      have : 3 * d * (3 * d) = 9 * (d * d) := by grind
      omega) (by
      have : 3 * B * (3 * B) = 9 * (B * B) := by grind
      omega)
    have e1 : (-B + d) * (-B + d) = (d - B) * (d - B) := by grind
    have e2 : (a + -C) * (a + -C) = (C - a) * (C - a) := by grind
    have e3 : 3 * (d - B) * (3 * (d - B)) = 9 * ((d - B) * (d - B)) := by grind
    rw [e1, e2]
    omega
  · exfalso
    have s1 := mul_le_sq (x := a) (y := C) (by omega) (by omega)
    have s2 := mul_le_sq (x := d) (y := B) (by omega) (by omega)
    omega
  · left
    exact ⟨by omega, by omega, by omega⟩
/-- sums of what is above 0 are above 0. -/
theorem pos_add {a b c d : Int} (h1 : PosR a b) (h2 : PosR c d) : PosR (a + c) (b + d) := by
  rcases h1 with ⟨x1, y1, z1⟩ | ⟨x1, y1, z1⟩ | ⟨x1, y1, z1⟩ <;> rcases h2 with ⟨x2, y2, z2⟩ | ⟨x2, y2, z2⟩ | ⟨x2, y2, z2⟩
  · left; exact ⟨by omega, by omega, by omega⟩
  · by_cases h : 0 ≤ b + d
    · left; exact ⟨by omega, h, by omega⟩
    · right; left
      have s1 := mul_le_sq (x := -(b + d)) (y := -d) (by omega) (by omega)
      have s2 := mul_le_sq (x := c) (y := a + c) (by omega) (by omega)
      rw [negsq, negsq] at s1
      exact ⟨by omega, by omega, by omega⟩
  · by_cases h : 0 ≤ a + c
    · left; exact ⟨h, by omega, by omega⟩
    · right; right
      have s1 := mul_le_sq (x := -(a + c)) (y := -c) (by omega) (by omega)
      have s2 := mul_le_sq (x := d) (y := b + d) (by omega) (by omega)
      rw [negsq, negsq] at s1
      exact ⟨by omega, by omega, by omega⟩
  · by_cases h : 0 ≤ b + d
    · left; exact ⟨by omega, h, by omega⟩
    · right; left
      have s1 := mul_le_sq (x := -(b + d)) (y := -b) (by omega) (by omega)
      have s2 := mul_le_sq (x := a) (y := a + c) (by omega) (by omega)
      rw [negsq, negsq] at s1
      exact ⟨by omega, by omega, by omega⟩
  · right; left
    have := add2 (a := a) (B := -b) (c := c) (D := -d) x1 (by omega) x2 (by omega) (by rw [negsq]; exact z1) (by rw [negsq]; exact z2)
    rw [show -b + -d = -(b + d) by omega, negsq] at this
    exact ⟨by omega, by omega, this⟩
  · exact pos_mix x1 y1 z1 x2 y2 z2
  · by_cases h : 0 ≤ a + c
    · left; exact ⟨h, by omega, by omega⟩
    · right; right
      have s1 := mul_le_sq (x := -(a + c)) (y := -a) (by omega) (by omega)
      have s2 := mul_le_sq (x := b) (y := b + d) (by omega) (by omega)
      rw [negsq, negsq] at s1
      exact ⟨by omega, by omega, by omega⟩
  · have := pos_mix x2 y2 z2 x1 y1 z1
    rw [Int.add_comm a c, Int.add_comm b d]
    exact this
  · right; right
    have e1 : 3 * b * (3 * b) = 9 * (b * b) := by grind
    have e2 : 3 * d * (3 * d) = 9 * (d * d) := by grind
    have := add2 (a := 3 * b) (B := -a) (c := 3 * d) (D := -c) (by omega) (by omega) (by omega) (by omega) (by rw [negsq]; omega) (by rw [negsq]; omega)
    have e3 : (3 * b + 3 * d) * (3 * b + 3 * d) = 9 * ((b + d) * (b + d)) := by grind
    rw [show -a + -c = -(a + c) by omega, negsq, e3] at this
    exact ⟨by omega, by omega, by omega⟩
/-- one root number is above another one. -/
def gtR (x y : Int × Int) : Prop := PosR (x.1 - y.1) (x.2 - y.2)
theorem posR_dec (a b : Int) : PosR a b ∨ (a = 0 ∧ b = 0) ∨ PosR (-a) (-b) := by
  by_cases h : 0 < sgnR a b
  · exact .inl ((sgn_pos a b).1 h)
  · by_cases h0 : a = 0 ∧ b = 0
    · exact .inr (.inl h0)
    · right; right
      rw [← sgn_pos, sgn_neg]
      have : sgnR a b ≠ 0 := by
        unfold sgnR
        rw [if_neg h0]
        split <;> decide
      omega
theorem posR_anti {a b : Int} (h1 : PosR a b) (h2 : PosR (-a) (-b)) : False := by
  rw [← sgn_pos] at h1 h2
  rw [sgn_neg] at h2
  omega
theorem posR_zero : ¬ PosR 0 0 := by
  rintro (⟨_, _, h⟩ | ⟨h, _⟩ | ⟨h, _⟩) <;> omega
theorem gtR_trans {x y z : Int × Int} (h1 : gtR x y) (h2 : gtR y z) : gtR x z := by
  have := pos_add h1 h2
  unfold gtR
  rw [show x.1 - y.1 + (y.1 - z.1) = x.1 - z.1 by omega, show x.2 - y.2 + (y.2 - z.2) = x.2 - z.2 by omega] at this
  exact this
/-- not above: a total order. -/
theorem leR_trans {x y z : Int × Int} (h1 : ¬ gtR x y) (h2 : ¬ gtR y z) : ¬ gtR x z := by
  intro h
  rcases posR_dec (x.1 - y.1) (x.2 - y.2) with k | ⟨k1, k2⟩ | k
  · exact h1 k
  · have : x = y := Prod.ext (by omega) (by omega)
    subst this
    exact h2 h
  · have k' : gtR y x := by
      unfold gtR
      rw [show y.1 - x.1 = -(x.1 - y.1) by omega, show y.2 - x.2 = -(x.2 - y.2) by omega]
      exact k
    exact h2 (gtR_trans k' h)
theorem gt_le {x y z : Int × Int} (h1 : gtR x y) (h2 : ¬ gtR z y) : gtR x z := by
  rcases posR_dec (z.1 - y.1) (z.2 - y.2) with k | ⟨k1, k2⟩ | k
  · exact absurd k h2
  · have : z = y := Prod.ext (by omega) (by omega)
    subst this
    exact h1
  · have k' : gtR y z := by
      unfold gtR
      rw [show y.1 - z.1 = -(z.1 - y.1) by omega, show y.2 - z.2 = -(z.2 - y.2) by omega]
      exact k
    exact gtR_trans h1 k'
theorem le_gt {x y z : Int × Int} (h1 : ¬ gtR y x) (h2 : gtR y z) : gtR x z := by
  rcases posR_dec (y.1 - x.1) (y.2 - x.2) with k | ⟨k1, k2⟩ | k
  · exact absurd k h1
  · have : y = x := Prod.ext (by omega) (by omega)
    subst this
    exact h2
  · have k' : gtR x y := by
      unfold gtR
      rw [show x.1 - y.1 = -(y.1 - x.1) by omega, show x.2 - y.2 = -(y.2 - x.2) by omega]
      exact k
    exact gtR_trans k' h2
theorem gtR_irr (x : Int × Int) : ¬ gtR x x := by
  unfold gtR
  rw [Int.sub_self, Int.sub_self]
  exact posR_zero
end

section
set_option linter.unusedSimpArgs false
set_option linter.unusedVariables false
open Go.RowKit

/-- a strength is not below 0. -/
theorem st_nonneg {x : Cy} (h : Bd 100000 x) : ¬ gtR (0, 0) (stC x) := by
  obtain ⟨x0, x1, x2, x3⟩ := x
  rw [st_exact h]
  unfold gtR
  simp only [Int.zero_sub]
  have n1 := sq_nn x0 x1
  have n2 := sq_nn x2 x3
  have key : 3 * ((x1 * x2 - x0 * x3) * (x1 * x2 - x0 * x3)) ≤ (x0 * x0 - x0 * x1 + x1 * x1 + (x2 * x2 - x2 * x3 + x3 * x3)) * (x0 * x0 - x0 * x1 + x1 * x1 + (x2 * x2 - x2 * x3 + x3 * x3)) := by
    have e1 : 4 * ((x0 * x0 - x0 * x1 + x1 * x1) * (x2 * x2 - x2 * x3 + x3 * x3)) = (2 * (x0 * (x2 - x3) + x1 * x3) - (x1 * x2 - x0 * x3)) * (2 * (x0 * (x2 - x3) + x1 * x3) - (x1 * x2 - x0 * x3)) + 3 * ((x1 * x2 - x0 * x3) * (x1 * x2 - x0 * x3)) := by grind
    have s1 : 0 ≤ (2 * (x0 * (x2 - x3) + x1 * x3) - (x1 * x2 - x0 * x3)) * (2 * (x0 * (x2 - x3) + x1 * x3) - (x1 * x2 - x0 * x3)) := by
      generalize 2 * (x0 * (x2 - x3) + x1 * x3) - (x1 * x2 - x0 * x3) = y
      rcases Int.le_total 0 y with h | h
      · exact Int.mul_nonneg h h
      · exact Int.mul_nonneg_of_nonpos_of_nonpos h h
    generalize x1 * x2 - x0 * x3 = v at *
    generalize x0 * x0 - x0 * x1 + x1 * x1 = p at *
    generalize x2 * x2 - x2 * x3 + x3 * x3 = q at *
    have s2 : 0 ≤ (p - q) * (p - q) := by
      rcases Int.le_total 0 (p - q) with h | h
      · exact Int.mul_nonneg h h
      · exact Int.mul_nonneg_of_nonpos_of_nonpos h h
    have e2 : (p + q) * (p + q) = (p - q) * (p - q) + 4 * (p * q) := by grind
    omega
  have hA0 : 0 ≤ x0 * x0 - x0 * x1 + x1 * x1 + (x2 * x2 - x2 * x3 + x3 * x3) := by omega
  generalize x1 * x2 - x0 * x3 = v at *
  generalize x0 * x0 - x0 * x1 + x1 * x1 + (x2 * x2 - x2 * x3 + x3 * x3) = A at *
  rintro (⟨a, b, c⟩ | ⟨a, b, c⟩ | ⟨a, b, c⟩)
  · have hA : A = 0 := by omega
    subst hA
    have hv : v ≠ 0 := by omega
    have := sq_pos' hv
    omega
  · omega
  · rw [negsq, negsq] at c
    omega
theorem str_bd1 {l : List Int} (hl : ∀ x ∈ l, -100 ≤ x ∧ x ≤ 100) (h : Nat) (h1 : 1 ≤ h) (h6 : h ≤ 6) : Bd 100000 (orderC l h) := by
  have hq := order_bq l h hl
  have hc := cS_le (fun k => cO (mod12 (wrap64 (-(h : Int) * k)))) (fun k => cO_le _) 12
  unfold cH at hq
  generalize cS (fun k => cO (mod12 (wrap64 (-(h : Int) * k)))) 12 = c at hq hc
  obtain ⟨q0, q1, q2, q3⟩ := hq
  exact ⟨by omega, by omega, by omega, by omega⟩
/-- the strength of a triple's order 1. -/
def strT (t : Int × Int × Int) : Int × Int := stC (orderC (triQ t) 1)
def TriOk (t : Int × Int × Int) : Prop := (-100 ≤ t.1 ∧ t.1 ≤ 100) ∧ (-100 ≤ t.2.1 ∧ t.2.1 ≤ 100) ∧ (-100 ≤ t.2.2 ∧ t.2.2 ≤ 100)
theorem triQ_bd {t : Int × Int × Int} (h : TriOk t) : ∀ x ∈ triQ t, -100 ≤ x ∧ x ≤ 100 := qOf_bd h.1 h.2.1 h.2.2
theorem strT_bd {t : Int × Int × Int} (h : TriOk t) : (0 ≤ (strT t).1 ∧ (strT t).1 ≤ 960000) ∧ (-320000 ≤ (strT t).2 ∧ (strT t).2 ≤ 320000) := str1_bd _ (triQ_bd h)
theorem strT_nn {t : Int × Int × Int} (h : TriOk t) : ¬ gtR (0, 0) (strT t) := st_nonneg (str_bd1 (triQ_bd h) 1 (by omega) (by omega))
theorem triN_ok (m n : Nat) (hm : m ≤ 100) (h : n < (m + 1) * (m + 1) * (m + 1)) : TriOk (triN m n) := by
  obtain ⟨t1, t2, t3⟩ := triN_bd m n h
  exact ⟨by omega, by omega, by omega⟩
def exc0 (t : Int × Int × Int) (lim : List Int) : Prop := (excL (triQ t) lim).length = 0
theorem desB_iff {lim : List Int} {g : Int × Int} {t : Int × Int × Int} (ht : TriOk t) (hg : (0 ≤ g.1 ∧ g.1 ≤ 960000) ∧ (-320000 ≤ g.2 ∧ g.2 ≤ 320000)) : desB lim g t = true ↔ gtR (strT t) g ∧ exc0 t lim := by
  have hs := strT_bd ht
  unfold desB desG exc0
  rw [show stC (orderC (triQ t) 1) = strT t from rfl]
  generalize strT t = s at hs ⊢
  obtain ⟨s0, s1⟩ := s
  obtain ⟨g0, g1⟩ := g
  rw [scR_one hs hg]
  unfold posB gtR
  rw [Bool.and_eq_true, decide_eq_true_iff, sgn_pos, beq_iff_eq]
/-- what the search keeps. -/
theorem desS_inv (m : Nat) (lim : List Int) (hm : m ≤ 100) : ∀ k, k ≤ (m + 1) * (m + 1) * (m + 1) →
    (∀ j, j < k → exc0 (triN m j) lim → ¬ gtR (strT (triN m j)) (desS m lim k).2) ∧
    (desS m lim k = ((0, 0, 0), (0, 0)) ∨ ∃ j, j < k ∧ desS m lim k = (triN m j, strT (triN m j)) ∧ exc0 (triN m j) lim ∧ gtR (strT (triN m j)) (0, 0))
  | 0, _ => ⟨fun j hj => by omega, .inl rfl⟩
  | k + 1, h => by
    obtain ⟨i1, i2⟩ := desS_inv m lim hm k (by omega)
    have hbd := desS_bd m lim hm k (by omega)
    have hok := triN_ok m k hm (by omega)
    rw [desS_succ]
    cases hb : desB lim (desS m lim k).2 (triN m k)
    · rw [cond_false]
      refine ⟨fun j hj he => ?_, ?_⟩
      · by_cases hjk : j = k
        · subst hjk
          intro hgt
          rw [(desB_iff hok hbd).2 ⟨hgt, he⟩] at hb
          exact absurd hb (by decide)
        · exact i1 j (by omega) he
      · rcases i2 with i2 | ⟨j, hj, i2⟩
        · exact .inl i2
        · exact .inr ⟨j, by omega, i2⟩
    · rw [cond_true]
      obtain ⟨hgt, he⟩ := (desB_iff hok hbd).1 hb
      refine ⟨fun j hj hej => ?_, .inr ⟨k, by omega, rfl, he, ?_⟩⟩
      · by_cases hjk : j = k
        · subst hjk
          exact gtR_irr _
        · have := i1 j (by omega) hej
          intro hc
          exact this (gtR_trans hc hgt)
      · rcases i2 with i2 | ⟨j, hj, i2, _, i3⟩
        · rw [i2] at hgt; exact hgt
        · rw [i2] at hgt; exact gtR_trans hgt i3
theorem desS_end (m : Nat) (lim : List Int) (hm : m ≤ 100) (a b c : Nat) (ha : a ≤ m) (hb : b ≤ m) (hc : c ≤ m) (he : exc0 ((a : Int), (b : Int), (c : Int)) lim) : ¬ gtR (strT ((a : Int), (b : Int), (c : Int))) (desS m lim ((m + 1) * (m + 1) * (m + 1))).2 := by
  have hk : (a * (m + 1) + b) * (m + 1) + c < (m + 1) * (m + 1) * (m + 1) := by
    have e1 : a * (m + 1) ≤ m * (m + 1) := Nat.mul_le_mul_right _ ha
    have e2 : (m + 1) * (m + 1) = m * (m + 1) + (m + 1) := Nat.succ_mul _ _
    have e3 : (a * (m + 1) + b + 1) * (m + 1) ≤ (m + 1) * (m + 1) * (m + 1) := Nat.mul_le_mul_right _ (by omega)
    have e4 : (a * (m + 1) + b + 1) * (m + 1) = (a * (m + 1) + b) * (m + 1) + (m + 1) := Nat.succ_mul _ _
    omega
  have := (desS_inv m lim hm _ (Nat.le_refl _)).1 _ hk
  rw [triN_at m a b c hb hc] at this
  exact this he
theorem tri0_iff (t : Int × Int × Int) : tri0 t = true ↔ t = (0, 0, 0) := by
  obtain ⟨a, b, c⟩ := t
  simp [tri0, Bool.and_assoc]
theorem strT_zero : strT (0, 0, 0) = (0, 0) := by kernel_rfl
/-- the design: none, or the one that is kept. -/
theorem des_cases (m : Nat) (lim : List Int) (hm : m ≤ 12) (hl : limE lim = 0) :
    (desR m lim = ((0, 0, 0), 18) ∧ ∀ a b c : Nat, a ≤ m → b ≤ m → c ≤ m → exc0 ((a : Int), (b : Int), (c : Int)) lim → strT ((a : Int), (b : Int), (c : Int)) = (0, 0)) ∨
    (∃ x y z : Nat, (x ≤ m ∧ y ≤ m ∧ z ≤ m) ∧ desR m lim = (((x : Int), (y : Int), (z : Int)), 0) ∧ exc0 ((x : Int), (y : Int), (z : Int)) lim ∧ gtR (strT ((x : Int), (y : Int), (z : Int))) (0, 0) ∧
      ∀ a b c : Nat, a ≤ m → b ≤ m → c ≤ m → exc0 ((a : Int), (b : Int), (c : Int)) lim → ¬ gtR (strT ((a : Int), (b : Int), (c : Int))) (strT ((x : Int), (y : Int), (z : Int)))) := by
  have hE : desE m lim = 0 := by
    have : withinE (m : Int) 0 12 = 0 := by unfold withinE; rw [if_neg (by omega)]
    rw [desE, this, hl]; rfl
  obtain ⟨_, hi⟩ := desS_inv m lim (by omega) _ (Nat.le_refl _)
  have he := fun a b c ha hb hc he => desS_end m lim (by omega) a b c ha hb hc he
  rw [desR, if_neg (by omega), Int.toNat_natCast]
  rcases hi with hi | ⟨j, hj, hi, hx, hg⟩
  · left
    rw [hi] at he ⊢
    refine ⟨rfl, fun a b c ha hb hc hx => ?_⟩
    have h1 := he a b c ha hb hc hx
    have h2 := strT_nn (t := ((a : Int), (b : Int), (c : Int))) ⟨by simp only; omega, by simp only; omega, by simp only; omega⟩
    generalize strT ((a : Int), (b : Int), (c : Int)) = s at h1 h2 ⊢
    obtain ⟨s0, s1⟩ := s
    unfold gtR at h1 h2
    simp only [Int.sub_zero, Int.zero_sub] at h1 h2
    rcases posR_dec s0 s1 with k | ⟨k1, k2⟩ | k
    · exact absurd k h1
    · rw [k1, k2]
    · exact absurd k h2
  · right
    obtain ⟨t1, t2, t3⟩ := triN_bd m j hj
    rw [hi] at he ⊢
    generalize triN m j = t at *
    obtain ⟨x, y, z⟩ := t
    simp only at t1 t2 t3
    obtain ⟨x, rfl⟩ : ∃ n : Nat, x = n := ⟨x.toNat, by omega⟩
    obtain ⟨y, rfl⟩ : ∃ n : Nat, y = n := ⟨y.toNat, by omega⟩
    obtain ⟨z, rfl⟩ : ∃ n : Nat, z = n := ⟨z.toNat, by omega⟩
    have hne : tri0 ((x : Int), (y : Int), (z : Int)) = false := by
      cases ht : tri0 ((x : Int), (y : Int), (z : Int))
      · rfl
      · rw [(tri0_iff _).1 ht, strT_zero] at hg
        exact absurd hg (gtR_irr _)
    refine ⟨x, y, z, ⟨by omega, by omega, by omega⟩, ?_, hx, hg, he⟩
    rw [hne]; rfl
end

section
set_option linter.unusedSimpArgs false
set_option linter.unusedVariables false
open Go.RowKit

theorem scR_ex {x y : Int × Int} {m : Int} (hx : (0 ≤ x.1 ∧ x.1 ≤ 1920000) ∧ (-360000 ≤ x.2 ∧ x.2 ≤ 360000)) (hy : (0 ≤ y.1 ∧ y.1 ≤ 960000) ∧ (-320000 ≤ y.2 ∧ y.2 ≤ 320000)) (hm : 0 ≤ m ∧ m ≤ 256) : scR 256 x m y = (256 * x.1 - m * y.1, 256 * x.2 - m * y.2) := by
  obtain ⟨x0, x1⟩ := x
  obtain ⟨y0, y1⟩ := y
  simp only at hx hy
  have p0 := mulb (x := m) (y := y0) (A := 256) (B := 960000) (by omega) (by omega)
  have p1 := mulb (x := m) (y := y1) (A := 256) (B := 320000) (by omega) (by omega)
  rw [scR_eq]
  simp only
  generalize m * y0 = q0 at *
  generalize m * y1 = q1 at *
  rw [wrapIn (x := 256 * x0) (by omega), wrapIn (x := q0) (by omega), wrapIn (x := 256 * x1) (by omega), wrapIn (x := q1) (by omega), wrapIn (x := 256 * x0 - q0) (by omega), wrapIn (x := 256 * x1 - q1) (by omega)]
/-- an order that is in excess by wider limits is so by the others. -/
theorem excB_mono {l : List Int} {lim lim' : List Int} (hl : ∀ x ∈ l, -100 ≤ x ∧ x ≤ 100) (h : Nat) (h2 : 2 ≤ h) (h6 : h ≤ 6) (m m' : Int) (hm : lim[h]?.getD 0 = m) (hm' : lim'[h]?.getD 0 = m') (hr : 0 ≤ m ∧ m ≤ 256) (hr' : 0 ≤ m' ∧ m' ≤ 256) (hd : m' = m ∨ m' = m + 1) (he : excB l lim h = false) : excB l lim' h = false := by
  unfold excB posB at *
  rw [hm] at he
  rw [hm']
  have bh := str_bd l hl h (by omega) (by omega)
  have b1 := str1_bd l hl
  have bn := st_nonneg (str_bd1 hl 1 (by omega) (by omega))
  rw [scR_ex bh b1 hr] at he
  rw [scR_ex bh b1 hr']
  have bn' : ¬ gtR (0, 0) (stC (orderC l 1)) := bn
  generalize stC (orderC l h) = x at *
  generalize stC (orderC l 1) = y at *
  obtain ⟨x0, x1⟩ := x
  obtain ⟨y0, y1⟩ := y
  have h1 := of_decide_eq_false he
  apply decide_eq_false
  rw [sgn_pos] at h1 ⊢
  rcases hd with rfl | rfl
  · exact h1
  · intro hp
    simp only at h1 hp bn'
    have e0 : 256 * x0 - (m + 1) * y0 = 256 * x0 - m * y0 - y0 := by rw [Int.add_mul]; omega
    have e1 : 256 * x1 - (m + 1) * y1 = 256 * x1 - m * y1 - y1 := by rw [Int.add_mul]; omega
    rw [e0, e1] at hp
    generalize 256 * x0 - m * y0 = z0 at *
    generalize 256 * x1 - m * y1 = z1 at *
    unfold gtR at bn'
    simp only [Int.zero_sub] at bn'
    rcases posR_dec y0 y1 with k | ⟨k1, k2⟩ | k
    · have := pos_add hp k
      rw [show z0 - y0 + y0 = z0 by omega, show z1 - y1 + y1 = z1 by omega] at this
      exact h1 this
    · rw [k1, k2, Int.sub_zero, Int.sub_zero] at hp
      exact h1 hp
    · exact bn' k
theorem exc0_iff (t : Int × Int × Int) (lim : List Int) : exc0 t lim ↔ ∀ h : Nat, 2 ≤ h → h ≤ 6 → excB (triQ t) lim h = false := by
  unfold exc0 excL chosenL
  rw [List.length_eq_zero_iff, List.filter_eq_nil_iff]
  constructor
  · intro hh h h2 h6
    have := hh (2 + ((h - 2 : Nat) : Int)) (List.mem_map.2 ⟨h - 2, List.mem_range.2 (by omega), rfl⟩)
    rw [show (2 + ((h - 2 : Nat) : Int)).toNat = h by omega] at this
    simpa using this
  · intro hh x hx
    obtain ⟨k, hk, rfl⟩ := List.mem_map.1 hx
    have hk5 := List.mem_range.1 hk
    have := hh (k + 2) (by omega) (by omega)
    rw [show (2 + (k : Int)).toNat = k + 2 by omega, this]
    simp
theorem exc0_mono {t : Int × Int × Int} {lim lim' : List Int} (ht : TriOk t) (hl : limE lim = 0) (hl' : limE lim' = 0) (hlen : lim.length = 7) (hlen' : lim'.length = 7) (hd : ∀ h : Nat, h < 7 → lim'[h]?.getD 0 = lim[h]?.getD 0 ∨ lim'[h]?.getD 0 = lim[h]?.getD 0 + 1) (he : exc0 t lim) : exc0 t lim' := by
  rw [exc0_iff] at he ⊢
  intro h h2 h6
  have r1 : 0 ≤ lim[h]?.getD 0 ∧ lim[h]?.getD 0 ≤ 256 := by
    rw [List.getElem?_eq_getElem (by omega)]
    exact limE_all hl _ (List.getElem_mem _)
  have r2 : 0 ≤ lim'[h]?.getD 0 ∧ lim'[h]?.getD 0 ≤ 256 := by
    rw [List.getElem?_eq_getElem (by omega)]
    exact limE_all hl' _ (List.getElem_mem _)
  exact excB_mono (triQ_bd ht) h h2 h6 _ _ rfl rfl r1 r2 (hd h (by omega)) (he h h2 h6)
/-- a number, turned: what its parts are. -/
def turV (m : Nat) (x : Int) : Cy := match m with
  | 0 => (x, 0, 0, 0)
  | 1 => (0, 0, 0, -x)
  | 2 => (x, x, 0, 0)
  | 3 => (0, 0, x, 0)
  | 4 => (0, x, 0, 0)
  | 5 => (0, 0, x, x)
  | 6 => (-x, 0, 0, 0)
  | 7 => (0, 0, 0, x)
  | 8 => (-x, -x, 0, 0)
  | 9 => (0, 0, -x, 0)
  | 10 => (0, -x, 0, 0)
  | _ => (0, 0, -x, -x)
theorem turn_val (a : Int) (h : -100 ≤ a ∧ a ≤ 100) (m : Nat) (hm : m < 12) : turnC (a, 0, 0, 0) m = turV m a := by
  have hb : Bd 1048576 (a, 0, 0, 0) := ⟨by simp only; omega, by simp only; omega, by simp only; omega, by simp only; omega⟩
  rw [turn_rot hb m hm, (rotC_exact hb m (by omega)).1]
  obtain rfl | rfl | rfl | rfl | rfl | rfl | rfl | rfl | rfl | rfl | rfl | rfl : m = 0 ∨ m = 1 ∨ m = 2 ∨ m = 3 ∨ m = 4 ∨ m = 5 ∨ m = 6 ∨ m = 7 ∨ m = 8 ∨ m = 9 ∨ m = 10 ∨ m = 11 := by omega
  all_goals (first | rfl | skip)
  all_goals (simp only [rotN, rotL, turV]; first | done | (refine Prod.ext ?_ (Prod.ext ?_ (Prod.ext ?_ ?_)) <;> (try simp only) <;> (try omega)))
theorem add4 {x y : Cy} (hx : Bd 100000 x) (hy : Bd 100000 y) : cyAdd x y = (x.1 + y.1, x.2.1 + y.2.1, x.2.2.1 + y.2.2.1, x.2.2.2 + y.2.2.2) := by
  obtain ⟨h0, h1, h2, h3⟩ := hx
  obtain ⟨g0, g1, g2, g3⟩ := hy
  unfold cyAdd
  rw [wrapIn (by omega), wrapIn (by omega), wrapIn (by omega), wrapIn (by omega)]
theorem term_val {L : List Int} {h : Int} {k m : Nat} {x : Int} (hx : L[k]?.getD 0 = x) (hb : -100 ≤ x ∧ x ≤ 100) (hm : mod12 (wrap64 (-h * k)) = m) (hm2 : m < 12) : termC L h k = turV m x := by
  rw [termC, hx, hm]
  exact turn_val x hb m hm2
theorem turV_bd {x : Int} (h : -100 ≤ x ∧ x ≤ 100) (m : Nat) : Bd 100 (turV m x) := by
  unfold turV
  split <;> exact ⟨by simp only; omega, by simp only; omega, by simp only; omega, by simp only; omega⟩
theorem fold_ex : ∀ (l : List Cy) (s : Cy) (B : Int), Bd B s → (∀ x ∈ l, Bd 100 x) → 0 ≤ B → B + 100 * l.length ≤ 1000000 → l.foldl cyAdd s = (s.1 + (l.map fun x => x.1).sum, s.2.1 + (l.map fun x => x.2.1).sum, s.2.2.1 + (l.map fun x => x.2.2.1).sum, s.2.2.2 + (l.map fun x => x.2.2.2).sum)
  | [], s, B, _, _, _, _ => by simp
  | y :: l, s, B, hs, hl, hB, hlen => by
    have hy := hl y (by simp)
    have e : cyAdd s y = (s.1 + y.1, s.2.1 + y.2.1, s.2.2.1 + y.2.2.1, s.2.2.2 + y.2.2.2) := by
      simp only [List.length_cons] at hlen
      obtain ⟨a0, a1, a2, a3⟩ := hs
      obtain ⟨b0, b1, b2, b3⟩ := hy
      unfold cyAdd
      rw [wrapIn (by omega), wrapIn (by omega), wrapIn (by omega), wrapIn (by omega)]
    rw [List.foldl_cons, e, fold_ex l _ (B + 100) ?_ (fun x hx => hl x (by simp [hx])) (by omega) (by simp only [List.length_cons] at hlen; omega)]
    · simp only [List.map_cons, List.sum_cons]
      refine Prod.ext ?_ (Prod.ext ?_ (Prod.ext ?_ ?_)) <;> simp only <;> omega
    · obtain ⟨a0, a1, a2, a3⟩ := hs
      obtain ⟨b0, b1, b2, b3⟩ := hy
      exact ⟨by simp only; omega, by simp only; omega, by simp only; omega, by simp only; omega⟩
theorem even_2 {a b c : Int} (ha : -100 ≤ a ∧ a ≤ 100) (hb : -100 ≤ b ∧ b ≤ 100) (hc : -100 ≤ c ∧ c ≤ 100) : orderC [a, b, c, c, b, a, -a, -b, -c, -c, -b, -a] 2 = (0, 0, 0, 0) := by
  have hu : upto (termC [a, b, c, c, b, a, -a, -b, -c, -c, -b, -a] 2) 12 = [turV 0 a, turV 10 b, turV 8 c, turV 6 c, turV 4 b, turV 2 a, turV 0 (-a), turV 10 (-b), turV 8 (-c), turV 6 (-c), turV 4 (-b), turV 2 (-a)] := by
    show [termC [a, b, c, c, b, a, -a, -b, -c, -c, -b, -a] 2 0, termC [a, b, c, c, b, a, -a, -b, -c, -c, -b, -a] 2 1, termC [a, b, c, c, b, a, -a, -b, -c, -c, -b, -a] 2 2, termC [a, b, c, c, b, a, -a, -b, -c, -c, -b, -a] 2 3, termC [a, b, c, c, b, a, -a, -b, -c, -c, -b, -a] 2 4, termC [a, b, c, c, b, a, -a, -b, -c, -c, -b, -a] 2 5, termC [a, b, c, c, b, a, -a, -b, -c, -c, -b, -a] 2 6, termC [a, b, c, c, b, a, -a, -b, -c, -c, -b, -a] 2 7, termC [a, b, c, c, b, a, -a, -b, -c, -c, -b, -a] 2 8, termC [a, b, c, c, b, a, -a, -b, -c, -c, -b, -a] 2 9, termC [a, b, c, c, b, a, -a, -b, -c, -c, -b, -a] 2 10, termC [a, b, c, c, b, a, -a, -b, -c, -c, -b, -a] 2 11] = _
    rw [term_val (k := 0) (m := 0) (x := a) rfl ha (by kernel_rfl) (by omega), term_val (k := 1) (m := 10) (x := b) rfl hb (by kernel_rfl) (by omega), term_val (k := 2) (m := 8) (x := c) rfl hc (by kernel_rfl) (by omega), term_val (k := 3) (m := 6) (x := c) rfl hc (by kernel_rfl) (by omega), term_val (k := 4) (m := 4) (x := b) rfl hb (by kernel_rfl) (by omega), term_val (k := 5) (m := 2) (x := a) rfl ha (by kernel_rfl) (by omega), term_val (k := 6) (m := 0) (x := -a) rfl (by omega) (by kernel_rfl) (by omega), term_val (k := 7) (m := 10) (x := -b) rfl (by omega) (by kernel_rfl) (by omega), term_val (k := 8) (m := 8) (x := -c) rfl (by omega) (by kernel_rfl) (by omega), term_val (k := 9) (m := 6) (x := -c) rfl (by omega) (by kernel_rfl) (by omega), term_val (k := 10) (m := 4) (x := -b) rfl (by omega) (by kernel_rfl) (by omega), term_val (k := 11) (m := 2) (x := -a) rfl (by omega) (by kernel_rfl) (by omega)]
  rw [orderC, hu, fold_ex _ _ 0 ⟨by decide, by decide, by decide, by decide⟩ ?_ (by decide) (by simp)]
  · simp only [List.map_cons, List.map_nil, List.sum_cons, List.sum_nil, turV]
    refine Prod.ext ?_ (Prod.ext ?_ (Prod.ext ?_ ?_)) <;> simp only <;> omega
  · intro x hx
    simp only [List.mem_cons, List.not_mem_nil, or_false] at hx
    rcases hx with rfl | rfl | rfl | rfl | rfl | rfl | rfl | rfl | rfl | rfl | rfl | rfl <;> exact turV_bd (by omega) _
theorem even_4 {a b c : Int} (ha : -100 ≤ a ∧ a ≤ 100) (hb : -100 ≤ b ∧ b ≤ 100) (hc : -100 ≤ c ∧ c ≤ 100) : orderC [a, b, c, c, b, a, -a, -b, -c, -c, -b, -a] 4 = (0, 0, 0, 0) := by
  have hu : upto (termC [a, b, c, c, b, a, -a, -b, -c, -c, -b, -a] 4) 12 = [turV 0 a, turV 8 b, turV 4 c, turV 0 c, turV 8 b, turV 4 a, turV 0 (-a), turV 8 (-b), turV 4 (-c), turV 0 (-c), turV 8 (-b), turV 4 (-a)] := by
    show [termC [a, b, c, c, b, a, -a, -b, -c, -c, -b, -a] 4 0, termC [a, b, c, c, b, a, -a, -b, -c, -c, -b, -a] 4 1, termC [a, b, c, c, b, a, -a, -b, -c, -c, -b, -a] 4 2, termC [a, b, c, c, b, a, -a, -b, -c, -c, -b, -a] 4 3, termC [a, b, c, c, b, a, -a, -b, -c, -c, -b, -a] 4 4, termC [a, b, c, c, b, a, -a, -b, -c, -c, -b, -a] 4 5, termC [a, b, c, c, b, a, -a, -b, -c, -c, -b, -a] 4 6, termC [a, b, c, c, b, a, -a, -b, -c, -c, -b, -a] 4 7, termC [a, b, c, c, b, a, -a, -b, -c, -c, -b, -a] 4 8, termC [a, b, c, c, b, a, -a, -b, -c, -c, -b, -a] 4 9, termC [a, b, c, c, b, a, -a, -b, -c, -c, -b, -a] 4 10, termC [a, b, c, c, b, a, -a, -b, -c, -c, -b, -a] 4 11] = _
    rw [term_val (k := 0) (m := 0) (x := a) rfl ha (by kernel_rfl) (by omega), term_val (k := 1) (m := 8) (x := b) rfl hb (by kernel_rfl) (by omega), term_val (k := 2) (m := 4) (x := c) rfl hc (by kernel_rfl) (by omega), term_val (k := 3) (m := 0) (x := c) rfl hc (by kernel_rfl) (by omega), term_val (k := 4) (m := 8) (x := b) rfl hb (by kernel_rfl) (by omega), term_val (k := 5) (m := 4) (x := a) rfl ha (by kernel_rfl) (by omega), term_val (k := 6) (m := 0) (x := -a) rfl (by omega) (by kernel_rfl) (by omega), term_val (k := 7) (m := 8) (x := -b) rfl (by omega) (by kernel_rfl) (by omega), term_val (k := 8) (m := 4) (x := -c) rfl (by omega) (by kernel_rfl) (by omega), term_val (k := 9) (m := 0) (x := -c) rfl (by omega) (by kernel_rfl) (by omega), term_val (k := 10) (m := 8) (x := -b) rfl (by omega) (by kernel_rfl) (by omega), term_val (k := 11) (m := 4) (x := -a) rfl (by omega) (by kernel_rfl) (by omega)]
  rw [orderC, hu, fold_ex _ _ 0 ⟨by decide, by decide, by decide, by decide⟩ ?_ (by decide) (by simp)]
  · simp only [List.map_cons, List.map_nil, List.sum_cons, List.sum_nil, turV]
    refine Prod.ext ?_ (Prod.ext ?_ (Prod.ext ?_ ?_)) <;> simp only <;> omega
  · intro x hx
    simp only [List.mem_cons, List.not_mem_nil, or_false] at hx
    rcases hx with rfl | rfl | rfl | rfl | rfl | rfl | rfl | rfl | rfl | rfl | rfl | rfl <;> exact turV_bd (by omega) _
theorem even_6 {a b c : Int} (ha : -100 ≤ a ∧ a ≤ 100) (hb : -100 ≤ b ∧ b ≤ 100) (hc : -100 ≤ c ∧ c ≤ 100) : orderC [a, b, c, c, b, a, -a, -b, -c, -c, -b, -a] 6 = (0, 0, 0, 0) := by
  have hu : upto (termC [a, b, c, c, b, a, -a, -b, -c, -c, -b, -a] 6) 12 = [turV 0 a, turV 6 b, turV 0 c, turV 6 c, turV 0 b, turV 6 a, turV 0 (-a), turV 6 (-b), turV 0 (-c), turV 6 (-c), turV 0 (-b), turV 6 (-a)] := by
    show [termC [a, b, c, c, b, a, -a, -b, -c, -c, -b, -a] 6 0, termC [a, b, c, c, b, a, -a, -b, -c, -c, -b, -a] 6 1, termC [a, b, c, c, b, a, -a, -b, -c, -c, -b, -a] 6 2, termC [a, b, c, c, b, a, -a, -b, -c, -c, -b, -a] 6 3, termC [a, b, c, c, b, a, -a, -b, -c, -c, -b, -a] 6 4, termC [a, b, c, c, b, a, -a, -b, -c, -c, -b, -a] 6 5, termC [a, b, c, c, b, a, -a, -b, -c, -c, -b, -a] 6 6, termC [a, b, c, c, b, a, -a, -b, -c, -c, -b, -a] 6 7, termC [a, b, c, c, b, a, -a, -b, -c, -c, -b, -a] 6 8, termC [a, b, c, c, b, a, -a, -b, -c, -c, -b, -a] 6 9, termC [a, b, c, c, b, a, -a, -b, -c, -c, -b, -a] 6 10, termC [a, b, c, c, b, a, -a, -b, -c, -c, -b, -a] 6 11] = _
    rw [term_val (k := 0) (m := 0) (x := a) rfl ha (by kernel_rfl) (by omega), term_val (k := 1) (m := 6) (x := b) rfl hb (by kernel_rfl) (by omega), term_val (k := 2) (m := 0) (x := c) rfl hc (by kernel_rfl) (by omega), term_val (k := 3) (m := 6) (x := c) rfl hc (by kernel_rfl) (by omega), term_val (k := 4) (m := 0) (x := b) rfl hb (by kernel_rfl) (by omega), term_val (k := 5) (m := 6) (x := a) rfl ha (by kernel_rfl) (by omega), term_val (k := 6) (m := 0) (x := -a) rfl (by omega) (by kernel_rfl) (by omega), term_val (k := 7) (m := 6) (x := -b) rfl (by omega) (by kernel_rfl) (by omega), term_val (k := 8) (m := 0) (x := -c) rfl (by omega) (by kernel_rfl) (by omega), term_val (k := 9) (m := 6) (x := -c) rfl (by omega) (by kernel_rfl) (by omega), term_val (k := 10) (m := 0) (x := -b) rfl (by omega) (by kernel_rfl) (by omega), term_val (k := 11) (m := 6) (x := -a) rfl (by omega) (by kernel_rfl) (by omega)]
  rw [orderC, hu, fold_ex _ _ 0 ⟨by decide, by decide, by decide, by decide⟩ ?_ (by decide) (by simp)]
  · simp only [List.map_cons, List.map_nil, List.sum_cons, List.sum_nil, turV]
    refine Prod.ext ?_ (Prod.ext ?_ (Prod.ext ?_ ?_)) <;> simp only <;> omega
  · intro x hx
    simp only [List.mem_cons, List.not_mem_nil, or_false] at hx
    rcases hx with rfl | rfl | rfl | rfl | rfl | rfl | rfl | rfl | rfl | rfl | rfl | rfl <;> exact turV_bd (by omega) _
/-- even orders of a quarter pattern. -/
theorem even_zero {a b c : Int} (ha : -100 ≤ a ∧ a ≤ 100) (hb : -100 ≤ b ∧ b ≤ 100) (hc : -100 ≤ c ∧ c ≤ 100) : orderC (qOf a b c) 2 = (0, 0, 0, 0) ∧ orderC (qOf a b c) 4 = (0, 0, 0, 0) ∧ orderC (qOf a b c) 6 = (0, 0, 0, 0) := by
  have e1 : wrap64 (-a) = -a := wrapIn (by omega)
  have e2 : wrap64 (-b) = -b := wrapIn (by omega)
  have e3 : wrap64 (-c) = -c := wrapIn (by omega)
  have hq : qOf a b c = [a, b, c, c, b, a, -a, -b, -c, -c, -b, -a] := by rw [qOf, e1, e2, e3]
  rw [hq]
  exact ⟨even_2 ha hb hc, even_4 ha hb hc, even_6 ha hb hc⟩
end

section
set_option linter.unusedSimpArgs false
set_option linter.unusedVariables false
open Go.RowKit

/-- does a list hold a number? -/
def hasI (l : List Int) (n : Int) : Bool := l.contains n

set_option maxHeartbeats 400000 in
theorem HasInt_any (v : Value) (l : List Int) (n : Int) (w : World) (hl : l.length ≤ 1000000000) (hv : Ints w v l) :
    Calls Tryz.prog 44 #[v, .int .i64 n] w fun r w' => r = .returned (.bool (hasI l n)) ∧ w = w' := by
  obtain ⟨a, cap, rfl, hc, hv⟩ := hv
  rcases Nat.eq_zero_or_pos l.length with h0 | h0
  · obtain rfl : l = [] := List.length_eq_zero_iff.1 h0
    go_enter Tryz.func44, Tryz.ntmps44
    go_wp2
    go_loop [5] (fun i => i = .int .i64 0) (fun _ => 0)
    case atStart => rfl
    case round =>
      obtain rfl := hrel
      go_wp2
      go_ret
      exact ⟨rfl, rfl⟩
  · obtain ⟨b, off, rfl, hcs⟩ := hv h0
    clear hv
    go_enter Tryz.func44, Tryz.ntmps44
    go_wp2
    go_loop [5] (fun i => ∃ k : Nat, k ≤ l.length ∧ i = .int .i64 k ∧ hasI (l.take k) n = false) (fun i => l.length - (intOf i).toNat)
    case atStart => exact ⟨0, by omega, rfl, rfl⟩
    case round =>
      obtain ⟨k, hk, rfl, hf⟩ := hrel
      by_cases hlt : k < l.length
      · have hcell := hcs k hlt
        obtain ⟨x, hx⟩ : ∃ x, l[k]? = some x := ⟨_, List.getElem?_eq_getElem hlt⟩
        rw [hx] at hcell
        simp only [Option.getD_some] at hcell
        have HX := Lib.hid hx
        have HF := Lib.hid hf
        clear hcs hx hf
        by_cases hz : x = n
        · have HR := Lib.hid (show hasI l n = true by rw [hasI, List.contains_iff_mem, ← hz]; exact List.mem_of_getElem? HX.out)
          subst hz
          go_wp2
          go_ret
          exact ⟨by rw [HR.out]; rfl, rfl⟩
        · have HR := Lib.hid (show hasI (l.take (k + 1)) n = false by
            have := HF.out
            unfold hasI at this ⊢
            rw [List.take_add_one, HX.out]
            simp at this ⊢
            exact ⟨this, fun h => hz h.symm⟩)
          go_wp2
          go_round
          case rel => exact ⟨k + 1, by omega, by go_num, HR.out⟩
          case measure => simp [intOf]; omega
      · obtain rfl : k = l.length := by omega
        rw [List.take_length] at hf
        have HR := Lib.hid hf
        clear hf
        go_wp2
        go_ret
        exact ⟨by rw [HR.out]; rfl, rfl⟩

theorem allE_of {l : List Int} {m : Int} (h : ∀ x ∈ l, -m ≤ x ∧ x ≤ m) : allE l m = 0 := by
  unfold allE
  induction l with
  | nil => rfl
  | cons a t ih =>
    have ha := h a (by simp)
    have e : withinE a (-m) m = 0 := by unfold withinE; rw [if_neg (by omega)]
    rw [List.map_cons]
    simp only [firstE, e, if_pos]
    exact ih fun x hx => h x (by simp [hx])
theorem strH_ok {t : Int × Int × Int} (ht : TriOk t) (o : Cy) (ho : o = orderC (triQ t) 1) (w : World) :
    Calls Tryz.prog 41 #[.agg #[.int .i64 o.1, .int .i64 o.2.1, .int .i64 o.2.2.1, .int .i64 o.2.2.2]] w fun e w' => e = .returned (.tuple #[.agg (ia [(strT t).1, (strT t).2]), .int .i64 0]) ∧ Below w.heap.size w w' := by
  have hb := str_bd1 (triQ_bd ht) 1 (by omega) (by omega)
  have hb' : Bd 100000 o := by rw [ho]; exact hb
  have hs : strT t = (st0 o.1 o.2.1 o.2.2.1 o.2.2.2, st1 o.1 o.2.1 o.2.2.1 o.2.2.2) := by rw [ho]; rfl
  obtain ⟨o0, o1, o2, o3⟩ := o
  have hc : cycE o0 o1 o2 o3 = 0 := allE_of (by
    obtain ⟨h0, h1, h2, h3⟩ := hb'
    simp only at h0 h1 h2 h3
    intro x hx
    simp only [List.mem_cons, List.not_mem_nil, or_false] at hx
    rcases hx with rfl | rfl | rfl | rfl <;> omega)
  have := StrengthH_any o0 o1 o2 o3 w
  rw [hc, twoOr, if_pos rfl] at this
  rw [hs]
  exact this
theorem rootE_strT {t : Int × Int × Int} (ht : TriOk t) : rootE (strT t).1 (strT t).2 = 0 := allE_of (by
  have h := strT_bd ht
  intro x hx
  simp only [List.mem_cons, List.not_mem_nil, or_false] at hx
  rcases hx with rfl | rfl <;> omega)
theorem levE_ok {t : Int × Int × Int} (ht : TriOk t) : levE t.1 t.2.1 t.2.2 = 0 := allE_of (by
  obtain ⟨h0, h1, h2⟩ := ht
  intro x hx
  simp only [List.mem_cons, List.not_mem_nil, or_false] at hx
  rcases hx with rfl | rfl | rfl <;> omega)

set_option maxRecDepth 100000 in
set_option maxHeartbeats 8000000 in
theorem best1_any (t : Int × Int × Int) (w : World) (ht : TriOk t) (hw : Powers w) :
    Calls Tryz.prog 39 #[.agg (ia [t.1, t.2.1, t.2.2])] w fun e w' => e = .returned (.tuple #[.agg (ia [(strT t).1, (strT t).2]), .bool true]) ∧ Below w.heap.size w w' := by
  have hlv := levE_ok ht
  have hpt : patE (triQ t) = 0 := patE_of (triQ_bd ht)
  have TQ := Lib.hid (fun W => by
    have := QuarterH_any t.1 t.2.1 t.2.2 W
    rw [quaR, hlv, arOr, if_pos rfl] at this
    exact this)
  have TSp := Lib.hid (fun W hW => by
    have := SpectrumH_any (triQ t) W rfl hW
    rw [hpt, arOr, if_pos rfl] at this
    exact this)
  have TS := Lib.hid (fun o ho W => strH_ok ht o ho W)
  have TR := Lib.hid (fun W => by
    have := CheckRootR_any (strT t).1 (strT t).2 W
    rw [rootE_strT ht] at this
    exact this)
  have q0 := specL_get (triQ t) 1 0 (by omega) (by omega)
  have q1 := specL_get (triQ t) 1 1 (by omega) (by omega)
  have q2 := specL_get (triQ t) 1 2 (by omega) (by omega)
  have q3 := specL_get (triQ t) 1 3 (by omega) (by omega)
  obtain ⟨S, hS⟩ : ∃ S, S = specL (triQ t) := ⟨_, rfl⟩
  have hSl : S.length = 48 := by rw [hS]; exact upto_length _ _
  rw [← hS] at q0 q1 q2 q3 TSp
  simp only [Nat.reduceMul, Nat.reduceAdd] at q0 q1 q2 q3
  have hq12 : (triQ t).length = 12 := rfl
  rw [show qOf t.1 t.2.1 t.2.2 = triQ t from rfl] at TQ
  obtain ⟨⟨o0, o1, o2, o3⟩, ho⟩ : ∃ o, o = orderC (triQ t) ((1 : Nat) : Int) := ⟨_, rfl⟩
  rw [← ho] at q0 q1 q2 q3
  have TS2 := Lib.hid (fun W => TS.out (o0, o1, o2, o3) ho W)
  simp only [cyAt] at q0 q1 q2 q3
  simp only at TS2
  generalize strT t = s at TS2 TR ⊢
  obtain ⟨s0, s1⟩ := s
  simp only at TS2 TR ⊢
  generalize triQ t = QL at TQ TSp hq12
  obtain ⟨a, b, c⟩ := t
  simp only at TQ ⊢
  have HQ := Lib.hid (And.intro q0 (And.intro q1 (And.intro q2 q3)))
  have HSL := Lib.hid hSl
  have HQL := Lib.hid hq12
  clear ht hlv hpt TS hS hSl q0 q1 q2 q3 ho hq12
  go_enter Tryz.func39, Tryz.ntmps39
  go_upto_region 1 with fail
  obtain ⟨W1, hW1⟩ : ∃ v, v = World.alloc w (Obj.cells (ia [a, b, c]) 26) := ⟨_, rfl⟩
  have kW1 : Below w.heap.size w W1 := by rw [hW1]; exact below_new _ _
  have iW1 : BlkI W1 (w.heap.size) 26 [a, b, c] := by rw [hW1]; exact BlkI.new _ _ _
  have sW1 : W1.heap.size = w.heap.size + 1 := by rw [hW1]; simp
  rw [← hW1]
  clear hW1
  obtain ⟨W2, hW2⟩ : ∃ v, v = World.alloc W1 (Obj.cells #[.int .i64 0, .int .i64 0] 78) := ⟨_, rfl⟩
  have kW2 : Below W1.heap.size W1 W2 := by rw [hW2]; exact below_new _ _
  have iW2 : BlkI W2 (w.heap.size + 1) 78 (List.replicate 2 0) := by rw [hW2, ← sW1]; exact BlkI.new W1 78 (List.replicate 2 0)
  have sW2 : W2.heap.size = w.heap.size + 1 + 1 := by rw [hW2]; simp [sW1]
  rw [← hW2]
  clear hW2
  have i1 := iW1.carry kW2
  have i2 := iW2
  have hB := bthen kW1 kW2
  clear kW1 kW2 sW1 sW2 iW1 iW2
  have hld := load3 (l := [a, b, c]) rfl i1
  go_wp2_with (refine wpList_load rfl _ _ rfl hld ?_)
  refine (TQ.out W2).mono ?_
  rintro e W3 ⟨rfl, hb⟩
  replace i2 := i2.carry hb
  replace hB := bthen hB hb
  clear hb hld i1
  go_upto_region 2 with (refine wpList_storeA rfl _ _ _ rfl W3.heap.size QL (List.replicate 12 0) rfl rfl (BlkI.new W3 22 (List.replicate 12 0)) (by rw [HQL.out]; rfl) (by rw [HQL.out]; exact Tryz.infoA12) ?_)
  obtain ⟨W4, hW4⟩ : ∃ v, v = World.setRow (World.alloc W3 (Obj.cells #[.int .i64 0, .int .i64 0, .int .i64 0, .int .i64 0, .int .i64 0, .int .i64 0, .int .i64 0, .int .i64 0, .int .i64 0, .int .i64 0, .int .i64 0, .int .i64 0] 22)) W3.heap.size (ia (QL)) := ⟨_, rfl⟩
  have kW4 : Below W3.heap.size W3 W4 := by rw [hW4]; exact zrow_below _ _ _ _
  have iW4 : BlkI W4 W3.heap.size 22 (QL) := by rw [hW4]; exact zrow_blk W3 _ (List.replicate 12 0) _
  rw [← hW4]
  clear hW4
  replace i2 := i2.carry kW4
  replace hB := bthen hB kW4
  have i4 := iW4
  generalize W3.heap.size = G4 at i4 ⊢
  clear kW4 iW4
  have hld := load12 HQL.out i4
  go_wp2_with (refine wpList_load rfl _ _ rfl hld ?_)
  refine (TSp.out W4 (hw.carry hB)).mono ?_
  rintro e W5 ⟨rfl, hb⟩
  replace i2 := i2.carry hb
  replace hB := bthen hB hb
  clear hb hld i4
  go_upto_region 3 with (refine wpList_storeA rfl _ _ _ rfl W5.heap.size S (List.replicate 48 0) rfl rfl (BlkI.new W5 82 (List.replicate 48 0)) (by rw [HSL.out]; rfl) (by rw [HSL.out]; exact Tryz.infoSp) ?_)
  obtain ⟨W6, hW6⟩ : ∃ v, v = World.setRow (World.alloc W5 (Obj.cells #[.int .i64 0, .int .i64 0, .int .i64 0, .int .i64 0, .int .i64 0, .int .i64 0, .int .i64 0, .int .i64 0, .int .i64 0, .int .i64 0, .int .i64 0, .int .i64 0, .int .i64 0, .int .i64 0, .int .i64 0, .int .i64 0, .int .i64 0, .int .i64 0, .int .i64 0, .int .i64 0, .int .i64 0, .int .i64 0, .int .i64 0, .int .i64 0, .int .i64 0, .int .i64 0, .int .i64 0, .int .i64 0, .int .i64 0, .int .i64 0, .int .i64 0, .int .i64 0, .int .i64 0, .int .i64 0, .int .i64 0, .int .i64 0, .int .i64 0, .int .i64 0, .int .i64 0, .int .i64 0, .int .i64 0, .int .i64 0, .int .i64 0, .int .i64 0, .int .i64 0, .int .i64 0, .int .i64 0, .int .i64 0] 82)) W5.heap.size (ia (S)) := ⟨_, rfl⟩
  have kW6 : Below W5.heap.size W5 W6 := by rw [hW6]; exact zrow_below _ _ _ _
  have iW6 : BlkI W6 W5.heap.size 82 (S) := by rw [hW6]; exact zrow_blk W5 _ (List.replicate 48 0) _
  rw [← hW6]
  clear hW6
  replace i2 := i2.carry kW6
  replace hB := bthen hB kW6
  have i6 := iW6
  generalize W5.heap.size = G6 at i6 ⊢
  clear kW6 iW6
  have c0 := BlkI.cell (l := S) i6 (j := 4) (by rw [HSL.out]; omega)
  have c1 := BlkI.cell (l := S) i6 (j := 5) (by rw [HSL.out]; omega)
  have c2 := BlkI.cell (l := S) i6 (j := 6) (by rw [HSL.out]; omega)
  have c3 := BlkI.cell (l := S) i6 (j := 7) (by rw [HSL.out]; omega)
  rw [HQ.out.1] at c0
  rw [HQ.out.2.1] at c1
  rw [HQ.out.2.2.1] at c2
  rw [HQ.out.2.2.2] at c3
  go_wp2_with fail
  refine (TS2.out W6).mono ?_
  rintro e W7 ⟨rfl, hb⟩
  have i2p := i2.carry hb
  replace i2 := i2.carry hb
  replace hB := bthen hB hb
  clear hb i6 c0 c1 c2 c3
  have hlt := Blk.lt i2
  go_upto_region 6 with (refine wpList_storeA rfl _ _ _ rfl W7.heap.size [s0, s1] (List.replicate 2 0) rfl rfl (BlkI.new W7 78 (List.replicate 2 0)) rfl Tryz.infoRoot ?_)
  obtain ⟨W8, hW8⟩ : ∃ v, v = World.setRow (World.alloc W7 (Obj.cells #[.int .i64 0, .int .i64 0] 78)) W7.heap.size (ia ([s0, s1])) := ⟨_, rfl⟩
  have kW8 : Below W7.heap.size W7 W8 := by rw [hW8]; exact zrow_below _ _ _ _
  have iW8 : BlkI W8 W7.heap.size 78 ([s0, s1]) := by rw [hW8]; exact zrow_blk W7 _ (List.replicate 2 0) _
  rw [← hW8]
  clear hW8
  replace i2 := i2.carry kW8
  replace hB := bthen hB kW8
  have i8 := iW8
  obtain ⟨G8, hG⟩ : ∃ G, G = W7.heap.size := ⟨_, rfl⟩
  rw [← hG] at i8 hlt ⊢
  clear kW8 iW8 i2p hG
  have HLT := Lib.hid hlt
  clear hlt
  refine wp_region_held_drew (S := (fun W => W.cell? ⟨G8, 0, none⟩ = some (.int .i64 s0) ∧ W.cell? ⟨G8, 1, none⟩ = some (.int .i64 s1))) (by kernel_rfl) ⟨BlkI.cell i8 (j := 0) (by simp), BlkI.cell i8 (j := 1) (by simp)⟩ (fun hHeld0 => ?_)
  obtain ⟨wzd, hwz⟩ : ∃ v, v = W8.drew := ⟨_, rfl⟩
  rw [← hwz] at hHeld0 ⊢
  have hbzd : Below w.heap.size w wzd := by rw [hwz]; exact hB.drew
  have hlzd : Below W8.heap.size W8 wzd := by rw [hwz]; exact (Below.refl _ _).drew
  have i2 := i2.carry hlzd
  have i8 := i8.carry hlzd
  clear hwz hlzd
  refine wpAnyH_take (i := 0) (oi := { dst := some 33, op := Op.load 78 (Operand.tmp 8), type := 78, pos := "law.go:381", after := #[], guard := none }) (v := ?_) rfl (by kernel_rfl) (by kernel_rfl) (by kernel_rfl) (fun _ _ _ h => h) (Or.inl ⟨by rfl, ?_⟩) (by assumption) ?_
  rotate_left
  · (intro w hSw; (try dsimp only at hSw); go_simp); (try with_reducible rfl)
  try simp only [Act.put, List.setIfInBounds_toArray, List.set_cons_zero, List.set_cons_succ]
  refine wpAnyH_take (i := 1) (oi := { dst := some 34, op := Op.move (Operand.tmp 9), type := 28, pos := "law.go:381", after := #[], guard := none }) (v := ?_) rfl (by kernel_rfl) (by kernel_rfl) (by kernel_rfl) (fun _ _ _ h => h) (Or.inl ⟨by rfl, ?_⟩) (by assumption) ?_
  rotate_left
  · (intro w hSw; (try dsimp only at hSw); go_simp); (try with_reducible rfl)
  try simp only [Act.put, List.setIfInBounds_toArray, List.set_cons_zero, List.set_cons_succ]
  refine wpAnyH_take (i := 2) (oi := { dst := some 35, op := Op.binOp BinOp.eql 28 (Operand.tmp 34) (Operand.const (Value.int IntKind.i64 0)) 28, type := 4, pos := "law.go:381", after := #[{ on := 1, ground := Ground.data }], guard := none }) (v := ?_) rfl (by kernel_rfl) (by kernel_rfl) (by kernel_rfl) (fun _ _ _ h => h) (Or.inl ⟨by rfl, ?_⟩) (by assumption) ?_
  rotate_left
  · (intro w hSw; (try dsimp only at hSw); go_simp); (try with_reducible rfl)
  try simp only [Act.put, List.setIfInBounds_toArray, List.set_cons_zero, List.set_cons_succ]
  refine wpAnyH_take (i := 3) (oi := { dst := some 36, op := Op.move (Operand.tmp 35), type := 4, pos := "law.go:381", after := #[{ on := 2, ground := Ground.data }], guard := none }) (v := ?_) rfl (by kernel_rfl) (by kernel_rfl) (by kernel_rfl) (fun _ _ _ h => h) (Or.inl ⟨by rfl, ?_⟩) (by assumption) ?_
  rotate_left
  · (intro w hSw; (try dsimp only at hSw); go_simp); (try with_reducible rfl)
  try simp only [Act.put, List.setIfInBounds_toArray, List.set_cons_zero, List.set_cons_succ]
  refine wpAnyH_take (i := 4) (oi := { dst := some 37, op := Op.load 78 (Operand.tmp 8), type := 78, pos := "law.go:381", after := #[{ on := 3, ground := Ground.guard }], guard := some (3, true) }) (v := ?_) rfl (by kernel_rfl) (by kernel_rfl) (by kernel_rfl) (fun _ _ _ h => h) (Or.inl ⟨by rfl, ?_⟩) (by assumption) ?_
  rotate_left
  · (intro w hSw; (try dsimp only at hSw); go_simp); (try with_reducible rfl)
  try simp only [Act.put, List.setIfInBounds_toArray, List.set_cons_zero, List.set_cons_succ]
  refine wpAnyH_ready (rs := [5]) (by kernel_rfl) (by simp) ?_
  refine (AllReadyH.cons (o := { dst := some 38, op := Op.call { callee := Callee.value (Operand.func 42), args := #[Operand.tmp 37], argTypes := #[88] }, type := 3, pos := "law.go:381", after := #[{ on := 4, ground := Ground.data }, { on := 3, ground := Ground.chain }, { on := 3, ground := Ground.guard }], guard := some (3, true) }) rfl (fun K hK => ?_) AllReadyH.nil)
  go_simp
  refine (TR.out wzd).mono ?_
  rintro e wz5 ⟨rfl, hl⟩
  (try go_wp2_with fail)
  have hbz5 := bthen hbzd hl
  have i2 := i2.carry hl
  have i8 := i8.carry hl
  clear hl
  refine hK.out _ _ ⟨BlkI.cell i8 (j := 0) (by simp), BlkI.cell i8 (j := 1) (by simp)⟩ (fun hHeld1 => ?_)
  clear hK K hHeld0
  try simp only [Act.put, List.setIfInBounds_toArray, List.set_cons_zero, List.set_cons_succ]
  refine wpAnyH_take (i := 6) (oi := { dst := some 39, op := Op.binOp BinOp.eql 3 (Operand.tmp 38) (Operand.const (Value.int IntKind.i64 0)) 3, type := 4, pos := "law.go:381", after := #[{ on := 5, ground := Ground.data }, { on := 3, ground := Ground.guard }, { on := 8, ground := Ground.gcOnly Departure.lateStores }], guard := some (3, true) }) (v := ?_) rfl (by kernel_rfl) (by kernel_rfl) (by kernel_rfl) (fun _ _ _ h => h) (Or.inl ⟨by rfl, ?_⟩) (by assumption) ?_
  rotate_left
  · (intro w hSw; (try dsimp only at hSw); go_simp); (try with_reducible rfl)
  try simp only [Act.put, List.setIfInBounds_toArray, List.set_cons_zero, List.set_cons_succ]
  refine wpAnyH_take (i := 7) (oi := { dst := some 40, op := Op.pick (Operand.tmp 36) (Operand.tmp 39) (Operand.const (Value.bool false)), type := 4, pos := "law.go:381", after := #[{ on := 3, ground := Ground.data }, { on := 6, ground := Ground.data }, { on := 8, ground := Ground.gcOnly Departure.lateStores }], guard := none }) (v := ?_) rfl (by kernel_rfl) (by kernel_rfl) (by kernel_rfl) (fun _ _ _ h => h) (Or.inl ⟨by rfl, ?_⟩) (by assumption) ?_
  rotate_left
  · (intro w hSw; (try dsimp only at hSw); go_simp); (try with_reducible rfl)
  try simp only [Act.put, List.setIfInBounds_toArray, List.set_cons_zero, List.set_cons_succ]
  refine wpAnyH_ready (rs := [8]) (by kernel_rfl) (by simp) ?_
  refine (AllReadyH.cons (o := { dst := none, op := Op.store 78 (Operand.tmp 2) (Operand.tmp 33), type := 0, pos := "law.go:381", after := #[{ on := 0, ground := Ground.data }, { on := 5, ground := Ground.chain }, { on := 0, ground := Ground.phase }, { on := 1, ground := Ground.textOnly Departure.lateStores }, { on := 2, ground := Ground.textOnly Departure.lateStores }, { on := 3, ground := Ground.textOnly Departure.lateStores }, { on := 4, ground := Ground.textOnly Departure.lateStores }, { on := 5, ground := Ground.textOnly Departure.lateStoresUnsure }, { on := 6, ground := Ground.textOnly Departure.lateStores }, { on := 7, ground := Ground.textOnly Departure.lateStores }], guard := none }) rfl (fun K hK => ?_) AllReadyH.nil)
  refine wp_storeA _ _ _ rfl (w.heap.size + 1) [s0, s1] (List.replicate 2 0) rfl rfl i2 rfl Tryz.infoRoot ?_
  obtain ⟨wz8, hwz⟩ : ∃ v, v = World.setRow wz5 (w.heap.size + 1) (ia [s0, s1]) := ⟨_, rfl⟩
  rw [← hwz]
  have hbz8 : Below w.heap.size w wz8 := by rw [hwz]; exact below_rowA hbz5 (by omega) _
  replace i2 : BlkI wz8 (w.heap.size + 1) 78 [s0, s1] := by rw [hwz]; exact BlkI.setRowA i2 [s0, s1]
  replace i8 : BlkI wz8 G8 78 [s0, s1] := by rw [hwz]; exact BlkI.setRowO i8 (B' := w.heap.size + 1) (by have := HLT.out; omega) (ia [s0, s1])
  clear hwz
  refine hK.out _ _ ⟨BlkI.cell i8 (j := 0) (by simp), BlkI.cell i8 (j := 1) (by simp)⟩ (fun hHeld2 => ?_)
  clear hK K hHeld1
  try simp only [Act.put, List.setIfInBounds_toArray, List.set_cons_zero, List.set_cons_succ]
  refine wpAnyH_take (i := 9) (oi := { dst := some 3, op := Op.assign (Operand.tmp 40), type := 4, pos := "law.go:381", after := #[{ on := 7, ground := Ground.data }, { on := 8, ground := Ground.chain }, { on := 0, ground := Ground.phase }, { on := 1, ground := Ground.phase }, { on := 2, ground := Ground.phase }, { on := 3, ground := Ground.phase }, { on := 4, ground := Ground.phase }, { on := 5, ground := Ground.phase }, { on := 6, ground := Ground.phase }, { on := 7, ground := Ground.phase }, { on := 8, ground := Ground.phase }], guard := none }) (v := ?_) rfl (by kernel_rfl) (by kernel_rfl) (by kernel_rfl) (fun _ _ _ h => h) (Or.inl ⟨by rfl, ?_⟩) (by assumption) ?_
  rotate_left
  · (intro w hSw; (try dsimp only at hSw); go_simp); (try with_reducible rfl)
  try simp only [Act.put, List.setIfInBounds_toArray, List.set_cons_zero, List.set_cons_succ]
  refine wpAnyH_done (by kernel_rfl) ?_ _
  clear hHeld2
  have hB := hbz8
  have z0 : World.cell? wz8 ⟨w.heap.size + 1, 0, none⟩ = some (.int .i64 s0) := BlkI.cell (l := [s0, s1]) i2 (j := 0) (by simp)
  have z1 : World.cell? wz8 ⟨w.heap.size + 1, 1, none⟩ = some (.int .i64 s1) := BlkI.cell (l := [s0, s1]) i2 (j := 1) (by simp)
  go_wp2
  exact bodyPost_ret (v := .tuple #[.agg #[.int .i64 s0, .int .i64 s1], .bool true]) (by simp [results, Tryz.f39, go_sem, z0, z1]) rfl ⟨rfl, hB⟩
end

section
set_option linter.unusedSimpArgs false
set_option linter.unusedVariables false
open Go.RowKit

theorem idx3 {l : List Int} (hl : l.length = 3) {k : Nat} (hk : k < 3) (w : World) : Sem.run Tryz.prog (Instr.index 26 (.agg (ia l)) (.int .i64 k)) w = .ok (.int .i64 (l[k]?.getD 0)) w := by
  obtain ⟨i, hi⟩ : ∃ i, Tryz.prog.info? 3 = some i := by
    obtain ⟨i0, hi, _⟩ := info_parts Tryz.infoInt
    exact ⟨_, hi⟩
  have hs : i.size = 1 := by
    obtain ⟨i0, hi0, _, h1, _⟩ := info_parts Tryz.infoInt
    rw [hi] at hi0
    cases hi0
    exact h1
  simp [Instr.index, asIntOf, run_underlying Tryz.undA3, sizeOf, typeInfo, hi, hs]
  rw [if_pos hk]
  have hx : (ia l)[k]? = some (.int .i64 (l[k]?.getD 0)) := by
    rw [ia, List.getElem?_toArray, List.getElem?_map, List.getElem?_eq_getElem (by omega)]
    rfl
  simp [part, typeInfo, sizeOf, hi, hs, hx]
theorem Tryz.enterBest1 (args : Array Value) (w : World) : Sem.run Tryz.prog (callFunc 39 args) w = .ok (.enter 39 args) w :=
  MuLone.run_callFunc_enter Tryz.func39 (by kernel_rfl) rfl args w
/-- the limits, one of them greater. -/
def wider (lim : List Int) (q : Nat) : List Int := lim.set q (if lim[q]?.getD 0 + 1 ≤ 256 then lim[q]?.getD 0 + 1 else 256)
theorem wider_len (lim : List Int) (q : Nat) : (wider lim q).length = lim.length := List.length_set
theorem limE_of {l : List Int} (h : ∀ x ∈ l, 0 ≤ x ∧ x ≤ 256) : limE l = 0 := by
  unfold limE
  induction l with
  | nil => rfl
  | cons a t ih =>
    have ha := h a (by simp)
    have e : withinE a 0 256 = 0 := by unfold withinE; rw [if_neg (by omega)]
    rw [List.map_cons]
    simp only [firstE, e, if_pos]
    exact ih fun x hx => h x (by simp [hx])
theorem wider_ok {lim : List Int} (hl : limE lim = 0) (q : Nat) (hq : q < lim.length) : limE (wider lim q) = 0 := by
  have h := limE_all hl
  have hx : 0 ≤ lim[q]?.getD 0 ∧ lim[q]?.getD 0 ≤ 256 := by
    rw [List.getElem?_eq_getElem hq]; exact h _ (List.getElem_mem _)
  refine limE_of fun x hxm => ?_
  rcases List.mem_or_eq_of_mem_set hxm with k | k
  · exact h x k
  · rw [k]; split <;> omega
theorem wider_step {lim : List Int} (hl : limE lim = 0) (q : Nat) (hq : q < lim.length) (h : Nat) : (wider lim q)[h]?.getD 0 = lim[h]?.getD 0 ∨ (wider lim q)[h]?.getD 0 = lim[h]?.getD 0 + 1 := by
  have hx : 0 ≤ lim[q]?.getD 0 ∧ lim[q]?.getD 0 ≤ 256 := by
    rw [List.getElem?_eq_getElem hq]; exact limE_all hl _ (List.getElem_mem _)
  unfold wider
  rw [List.getElem?_set]
  by_cases c : q = h
  · subst c
    rw [if_pos rfl, if_pos hq]
    simp only [Option.getD_some]
    split <;> omega
  · rw [if_neg c]; exact .inl rfl
theorem best_more {n : Nat} (hn : n ≤ 11) {lim lim' : List Int} (hl : limE lim = 0) (hl' : limE lim' = 0) (h7 : lim.length = 7) (h7' : lim'.length = 7) (hd : ∀ h : Nat, h < 7 → lim'[h]?.getD 0 = lim[h]?.getD 0 ∨ lim'[h]?.getD 0 = lim[h]?.getD 0 + 1)
    {x y z : Nat} (hx : x ≤ n ∧ y ≤ n ∧ z ≤ n) (he : exc0 ((x : Int), (y : Int), (z : Int)) lim) (hg : gtR (strT ((x : Int), (y : Int), (z : Int))) (0, 0)) :
    ∃ x' y' z' : Nat, (x' ≤ n + 1 ∧ y' ≤ n + 1 ∧ z' ≤ n + 1) ∧ desR ((n + 1 : Nat) : Int) lim' = (((x' : Int), (y' : Int), (z' : Int)), 0) ∧ 0 ≤ sgnR ((strT ((x' : Int), (y' : Int), (z' : Int))).1 - (strT ((x : Int), (y : Int), (z : Int))).1) ((strT ((x' : Int), (y' : Int), (z' : Int))).2 - (strT ((x : Int), (y : Int), (z : Int))).2) := by
  have ht : TriOk ((x : Int), (y : Int), (z : Int)) := ⟨by simp only; omega, by simp only; omega, by simp only; omega⟩
  have he' := exc0_mono ht hl hl' h7 h7' hd he
  rcases des_cases (n + 1) lim' (by omega) hl' with ⟨_, h⟩ | ⟨x', y', z', hb, hr, _, _, hm⟩
  · have := h x y z (by omega) (by omega) (by omega) he'
    rw [this] at hg
    exact absurd hg (gtR_irr _)
  · refine ⟨x', y', z', hb, hr, ?_⟩
    have := hm x y z (by omega) (by omega) (by omega) he'
    generalize strT ((x : Int), (y : Int), (z : Int)) = s at *
    generalize strT ((x' : Int), (y' : Int), (z' : Int)) = s' at *
    unfold gtR at this
    rw [← sgn_pos] at this
    have e := sgn_neg (s.1 - s'.1) (s.2 - s'.2)
    rw [show -(s.1 - s'.1) = s'.1 - s.1 by omega, show -(s.2 - s'.2) = s'.2 - s.2 by omega] at e
    rw [e]
    omega
theorem even_has {t : Int × Int × Int} (ht : TriOk t) : hasI (chosenL (fun h => cyIs0 (orderC (triQ t) h)) 1 6) 2 = true ∧ hasI (chosenL (fun h => cyIs0 (orderC (triQ t) h)) 1 6) 4 = true ∧ hasI (chosenL (fun h => cyIs0 (orderC (triQ t) h)) 1 6) 6 = true := by
  obtain ⟨h2, h4, h6⟩ := even_zero ht.1 ht.2.1 ht.2.2
  have key : ∀ k : Nat, k < 6 → cyIs0 (orderC (triQ t) (1 + (k : Int))) = true → hasI (chosenL (fun h => cyIs0 (orderC (triQ t) h)) 1 6) (1 + (k : Int)) = true := fun k hk h => by
    unfold hasI chosenL
    rw [List.contains_iff_mem, List.mem_filter]
    exact ⟨List.mem_map.2 ⟨k, List.mem_range.2 hk, rfl⟩, h⟩
  refine ⟨?_, ?_, ?_⟩
  · exact key 1 (by omega) (by show cyIs0 (orderC (qOf t.1 t.2.1 t.2.2) 2) = true; rw [h2]; rfl)
  · exact key 3 (by omega) (by show cyIs0 (orderC (qOf t.1 t.2.1 t.2.2) 4) = true; rw [h4]; rfl)
  · exact key 5 (by omega) (by show cyIs0 (orderC (qOf t.1 t.2.1 t.2.2) 6) = true; rw [h6]; rfl)
theorem excE_ok {t : Int × Int × Int} (ht : TriOk t) {lim : List Int} (hl : limE lim = 0) : excE (triQ t) lim = 0 := by
  rw [excE, patE_of (triQ_bd ht), hl]; rfl
end

section
set_option linter.unusedSimpArgs false
set_option linter.unusedVariables false
open Go.RowKit

theorem quaH_ok {t : Int × Int × Int} (ht : TriOk t) (W : World) : Calls Tryz.prog 11 #[.agg (ia [t.1, t.2.1, t.2.2])] W fun e w' => e = .returned (.tuple #[.agg (ia (triQ t)), .int .i64 0]) ∧ Below W.heap.size W w' := by
  have := QuarterH_any t.1 t.2.1 t.2.2 W
  rw [quaR, levE_ok ht, arOr, if_pos rfl] at this
  exact this
theorem excH_ok {t : Int × Int × Int} (ht : TriOk t) {lim : List Int} (hlim : lim.length = 7) (hl : limE lim = 0) (W : World) (hW : Powers W) : Calls Tryz.prog 10 #[.agg (ia (triQ t)), .agg (ia lim)] W fun e w' => (∃ u, e = .returned (.tuple #[u, .int .i64 0]) ∧ Ints w' u (excL (triQ t) lim)) ∧ Below W.heap.size W w' := by
  have := ExcessH_any (triQ t) lim W rfl hlim hW (fun h => smallP_all _ lim (triQ_bd ht) (limE_all hl))
  rw [excE_ok ht hl, lsOr, if_pos rfl] at this
  exact this
theorem eliH_ok {t : Int × Int × Int} (ht : TriOk t) (W : World) (hW : Powers W) : Calls Tryz.prog 43 #[.agg (ia (triQ t))] W fun e w' => (∃ u, e = .returned (.tuple #[u, .int .i64 0]) ∧ Ints w' u (chosenL (fun h => cyIs0 (orderC (triQ t) h)) 1 6)) ∧ Below W.heap.size W w' := by
  have := EliminatedH_any (triQ t) W rfl hW
  rw [patE_of (triQ_bd ht), lsOr, if_pos rfl] at this
  exact this
theorem desH_ok (n : Nat) (hn : n ≤ 12) {lim : List Int} (hlim : lim.length = 7) (hl : limE lim = 0) (W : World) (hW : Powers W) : Calls Tryz.prog 12 #[.int .i64 n, .agg (ia lim)] W fun e w' => e = .returned (.tuple #[.agg (ia (triL (desR n lim).1)), .int .i64 (desR n lim).2]) ∧ Below W.heap.size W w' :=
  Design_any n lim W hlim hW (fun _ => desSmall_all _ lim (by omega) hl)
theorem eqRoot0 (a b : Int) (W : World) : Sem.run Tryz.prog (binOp .eql 78 (.agg #[.int .i64 a, .int .i64 b]) (.agg #[.int .i64 0, .int .i64 0])) W = .ok (.bool (a == 0 && b == 0)) W := by
  go_simp
  by_cases h1 : a = 0 <;> by_cases h2 : b = 0 <;> simp [h1, h2]
theorem triOk_nat {n x y z : Nat} (hn : n ≤ 12) (h : x ≤ n ∧ y ≤ n ∧ z ≤ n) : TriOk ((x : Int), (y : Int), (z : Int)) := ⟨by simp only; omega, by simp only; omega, by simp only; omega⟩

set_option maxRecDepth 100000 in
set_option maxHeartbeats 40000000 in
theorem bst_law (m0 : Int) (lim : List Int) (a b c : Int) (w : World) (hlim : lim.length = 7) (hw : Powers w) (hp : Pows w) (hm : 0 ≤ m0 ∧ m0 ≤ 255) (ka : 0 ≤ a ∧ a ≤ 255) (kb : 0 ≤ b ∧ b ≤ 255) (kc : 0 ≤ c ∧ c ≤ 255) :
    Calls Tryz.prog 5 #[.int .u8 m0, .agg (ia lim), .agg #[.int .u8 a, .int .u8 b, .int .u8 c]] w fun e w' => e = .returned (.bool true) ∧ Below w.heap.size w w' := by
  have HL7 := Lib.hid hlim
  have TAW := Lib.hid (fun W hP hQ => awake_any W hP hQ)
  have TL := Lib.hid (fun W => CheckLimitsR_any lim W hlim)
  have HWw := Lib.hid hw
  have HPw := Lib.hid hp
  by_cases hL : limE lim = 0
  · obtain ⟨mN, rfl⟩ : ∃ n : Nat, m0 = n := ⟨m0.toNat, by omega⟩
    obtain ⟨aN, rfl⟩ : ∃ n : Nat, a = n := ⟨a.toNat, by omega⟩
    obtain ⟨bN, rfl⟩ : ∃ n : Nat, b = n := ⟨b.toNat, by omega⟩
    obtain ⟨cN, rfl⟩ : ∃ n : Nat, c = n := ⟨c.toNat, by omega⟩
    obtain ⟨n, hn⟩ : ∃ n, n = mN % 4 := ⟨_, rfl⟩
    have hn3 : n ≤ 3 := by omega
    obtain ⟨t0, ht0⟩ : ∃ x, x = aN % (n + 1) := ⟨_, rfl⟩
    obtain ⟨t1, ht1⟩ : ∃ x, x = bN % (n + 1) := ⟨_, rfl⟩
    obtain ⟨t2, ht2⟩ : ∃ x, x = cN % (n + 1) := ⟨_, rfl⟩
    have l0 : t0 ≤ n := by have := Nat.mod_lt aN (show 0 < n + 1 by omega); omega
    have l1 : t1 ≤ n := by have := Nat.mod_lt bN (show 0 < n + 1 by omega); omega
    have l2 : t2 ≤ n := by have := Nat.mod_lt cN (show 0 < n + 1 by omega); omega
    obtain ⟨q, hq⟩ : ∃ x, x = 2 + aN % 5 := ⟨_, rfl⟩
    have hq7 : q < 7 := by omega
    have ht : TriOk ((t0 : Int), (t1 : Int), (t2 : Int)) := triOk_nat (n := n) (by omega) ⟨l0, l1, l2⟩
    have TQ := Lib.hid (fun W => quaH_ok ht W)
    have TX := Lib.hid (fun W hW => excH_ok ht hlim hL W hW)
    have T1 := Lib.hid (fun W hW => best1_any ((t0 : Int), (t1 : Int), (t2 : Int)) W ht hW)
    have TD := Lib.hid (fun W hW => desH_ok n (by omega) hlim hL W hW)
    have DC := Lib.hid (des_cases n lim (by omega) hL)
    have hlw := wider_ok hL q (by omega)
    have hww := fun h => wider_step hL q (by omega) h
    have TD2 := Lib.hid (fun W hW => desH_ok (n + 1) (by omega) (show (wider lim q).length = 7 by rw [wider_len]; exact hlim) hlw W hW)
    have BM := Lib.hid (fun (x y z : Nat) hx he hg => best_more (n := n) (by omega) hL hlw hlim (show (wider lim q).length = 7 by rw [wider_len]; exact hlim) (fun h _ => hww h) (x := x) (y := y) (z := z) hx he hg)
    have TQ2 := Lib.hid (fun (x y z : Nat) (hx : x ≤ n + 1 ∧ y ≤ n + 1 ∧ z ≤ n + 1) W => quaH_ok (triOk_nat (n := n + 1) (by omega) hx) W)
    have TX2 := Lib.hid (fun (x y z : Nat) (hx : x ≤ n + 1 ∧ y ≤ n + 1 ∧ z ≤ n + 1) W hW => excH_ok (triOk_nat (n := n + 1) (by omega) hx) hlim hL W hW)
    have TE2 := Lib.hid (fun (x y z : Nat) (hx : x ≤ n + 1 ∧ y ≤ n + 1 ∧ z ≤ n + 1) W hW => eliH_ok (triOk_nat (n := n + 1) (by omega) hx) W hW)
    have T12 := Lib.hid (fun (x y z : Nat) (hx : x ≤ n + 1 ∧ y ≤ n + 1 ∧ z ≤ n + 1) W hW => best1_any ((x : Int), (y : Int), (z : Int)) W (triOk_nat (n := n + 1) (by omega) hx) hW)
    have EV := Lib.hid (fun (x y z : Nat) (hx : x ≤ n + 1 ∧ y ≤ n + 1 ∧ z ≤ n + 1) => even_has (triOk_nat (n := n + 1) (by omega) hx))
    have SB := Lib.hid (fun (x y z : Nat) (hx : x ≤ n + 1 ∧ y ≤ n + 1 ∧ z ≤ n + 1) => strT_bd (triOk_nat (n := n + 1) (by omega) hx))
    have hs1 := strT_bd ht
    have LQ : (0 : Int) ≤ lim[q]?.getD 0 ∧ lim[q]?.getD 0 ≤ 256 := by rw [List.getElem?_eq_getElem (by omega)]; exact limE_all hL _ (List.getElem_mem _)
    simp only at TQ T1 TX
    generalize hst : strT ((t0 : Int), (t1 : Int), (t2 : Int)) = s at T1 hs1
    obtain ⟨s0, s1⟩ := s
    simp only at T1 hs1
    have HST := Lib.hid hst
    have HSB := Lib.hid hs1
    have HLQ := Lib.hid LQ
    have HT := Lib.hid (And.intro ht0 (And.intro ht1 ht2))
    have HQ := Lib.hid hq
    have HN := Lib.hid hn
    have hQl : (triQ ((t0 : Int), (t1 : Int), (t2 : Int))).length = 12 := rfl
    obtain ⟨QL, hQL⟩ : ∃ L, L = triQ ((t0 : Int), (t1 : Int), (t2 : Int)) := ⟨_, rfl⟩
    rw [← hQL] at TQ TX hQl
    obtain ⟨XL, hXL⟩ : ∃ L, L = excL QL lim := ⟨_, rfl⟩
    rw [← hXL] at TX
    have HXL := Lib.hid (show XL.length = 0 → exc0 ((t0 : Int), (t1 : Int), (t2 : Int)) lim from fun h => by unfold exc0; rw [← hQL, ← hXL]; exact h)
    have HQL := Lib.hid hQl
    rw [hL] at TL
    clear hL hn hq ht0 ht1 ht2 ht hlw hww hst hs1 LQ hQL hXL hQl hlim hw hp

    go_enter Tryz.func5, Tryz.ntmps5
    go_upto_region 1 with fail
    obtain ⟨W1, hW1⟩ : ∃ v, v = World.alloc w (Obj.cells (ia lim) 23) := ⟨_, rfl⟩
    have kW1 : Below w.heap.size w W1 := by rw [hW1]; exact below_new _ _
    have iW1 : BlkI W1 (w.heap.size) 23 lim := by rw [hW1]; exact BlkI.new _ _ _
    have sW1 : W1.heap.size = w.heap.size + 1 := by rw [hW1]; simp
    rw [← hW1]
    clear hW1
    obtain ⟨Wa, hWa⟩ : ∃ v, v = World.alloc W1 (Obj.cells #[.int .u8 (aN : Int), .int .u8 (bN : Int), .int .u8 (cN : Int)] 76) := ⟨_, rfl⟩
    have kWa : Below W1.heap.size W1 Wa := by rw [hWa]; exact below_new _ _
    have iWa : Blk Wa (w.heap.size + 1) 76 [.int .u8 (aN : Int), .int .u8 (bN : Int), .int .u8 (cN : Int)] := by rw [hWa, ← sW1]; exact Blk.new _ _ _
    have sWa : Wa.heap.size = w.heap.size + 1 + 1 := by rw [hWa]; simp [sW1]
    rw [← hWa]
    clear hWa
    have i4 : BlkI Wa w.heap.size 23 lim := iW1.carry kWa
    have q0 := iWa.cell (j := 0) (v := .int .u8 (aN : Int)) rfl
    have q1 := iWa.cell (j := 1) (v := .int .u8 (bN : Int)) rfl
    have q2 := iWa.cell (j := 2) (v := .int .u8 (cN : Int)) rfl
    have hB := bthen kW1 kWa
    obtain ⟨G5, hG5⟩ : ∃ G, G = w.heap.size + 1 := ⟨_, rfl⟩
    rw [← hG5] at q0 q1 q2 ⊢
    obtain ⟨G4, hG4⟩ : ∃ G, G = w.heap.size := ⟨_, rfl⟩
    rw [← hG4] at i4 ⊢
    have HW := Lib.hid (HWw.out.carry hB)
    have HP := Lib.hid (HPw.out.carry hB)
    have HB := Lib.hid hB
    clear iW1 kW1 sW1 iWa kWa sWa hG4 hG5 hB
    have hld2 := load7 HL7.out i4
    go_wp2_with (refine wpList_load rfl _ _ rfl hld2 ?_)
    refine (TL.out Wa).mono ?_
    rintro e Wb ⟨rfl, hA⟩
    clear hld2
    have HI4 := Lib.hid i4
    have Q0 := Lib.hid q0
    have Q1 := Lib.hid q1
    have Q2 := Lib.hid q2
    clear i4 q0 q1 q2
    have e0 : IntKind.i64.wrap (mN : Int) = (mN : Int) := IntWalk.i64_in _ (by omega)
    have e1 : (mN : Int).tmod 4 = (n : Int) := by rw [HN.out]; rfl
    go_upto_region 5 with fail
    clear e0 e1
    have f0 : IntKind.i64.wrap (aN : Int) = (aN : Int) := IntWalk.i64_in _ (by omega)
    have f1 : IntKind.i64.wrap (bN : Int) = (bN : Int) := IntWalk.i64_in _ (by omega)
    have f2 : IntKind.i64.wrap (cN : Int) = (cN : Int) := IntWalk.i64_in _ (by omega)
    have f3 : IntKind.i64.wrap ((n : Int) + 1) = (n : Int) + 1 := IntWalk.i64_in _ (by omega)
    have g0 : (aN : Int).tmod ((n : Int) + 1) = (t0 : Int) := by rw [HT.out.1]; rfl
    have g1 : (bN : Int).tmod ((n : Int) + 1) = (t1 : Int) := by rw [HT.out.2.1]; rfl
    have g2 : (cN : Int).tmod ((n : Int) + 1) = (t2 : Int) := by rw [HT.out.2.2]; rfl
    have g0' : (aN : Int) % ((n : Int) + 1) = (t0 : Int) := by rw [HT.out.1]; rfl
    have g1' : (bN : Int) % ((n : Int) + 1) = (t1 : Int) := by rw [HT.out.2.1]; rfl
    have g2' : (cN : Int) % ((n : Int) + 1) = (t2 : Int) := by rw [HT.out.2.2]; rfl
    have nz : ¬ ((n : Int) + 1 = 0) := by omega
    refine wp_region_held_drew (S := (fun W => W.cell? ⟨G5, 0, none⟩ = some (.int .u8 (aN : Int)) ∧ W.cell? ⟨G5, 1, none⟩ = some (.int .u8 (bN : Int)) ∧ W.cell? ⟨G5, 2, none⟩ = some (.int .u8 (cN : Int)))) (by kernel_rfl) ⟨cellb Q0.out hA.drew, cellb Q1.out hA.drew, cellb Q2.out hA.drew⟩ (fun hHeld0 => ?_)
    obtain ⟨wzd, hwz⟩ : ∃ v, v = Wb.drew := ⟨_, rfl⟩
    rw [← hwz] at hHeld0 ⊢
    have hbzd : Below Wa.heap.size Wa wzd := by rw [hwz]; exact hA.drew
    have hlzd : Below Wb.heap.size Wb wzd := by rw [hwz]; exact (Below.refl _ _).drew
    clear hwz hlzd
    refine wpAnyH_take (i := 0) (oi := { dst := some 38, op := Op.indexAddr 76 (Operand.tmp 5) (Operand.const (Value.int IntKind.i64 0)), type := 0, pos := "law.go:384", after := #[], guard := none }) (v := ?_) rfl (by kernel_rfl) (by kernel_rfl) (by kernel_rfl) (fun _ _ _ h => h) (Or.inl ⟨by rfl, ?_⟩) (by assumption) ?_
    rotate_left
    · (intro w hSw; (try dsimp only at hSw); go_simp); (try with_reducible rfl)
    try simp only [Act.put, List.setIfInBounds_toArray, List.set_cons_zero, List.set_cons_succ]
    refine wpAnyH_take (i := 1) (oi := { dst := some 39, op := Op.load 5 (Operand.tmp 38), type := 5, pos := "law.go:384", after := #[{ on := 0, ground := Ground.data }], guard := none }) (v := ?_) rfl (by kernel_rfl) (by kernel_rfl) (by kernel_rfl) (fun _ _ _ h => h) (Or.inl ⟨by rfl, ?_⟩) (by assumption) ?_
    rotate_left
    · (intro w hSw; (try dsimp only at hSw); go_simp); (try with_reducible rfl)
    try simp only [Act.put, List.setIfInBounds_toArray, List.set_cons_zero, List.set_cons_succ]
    refine wpAnyH_take (i := 2) (oi := { dst := some 40, op := Op.convert 5 3 (Operand.tmp 39), type := 3, pos := "law.go:384", after := #[{ on := 1, ground := Ground.data }], guard := none }) (v := ?_) rfl (by kernel_rfl) (by kernel_rfl) (by kernel_rfl) (fun _ _ _ h => h) (Or.inl ⟨by rfl, ?_⟩) (by assumption) ?_
    rotate_left
    · (intro w hSw; (try dsimp only at hSw); go_simp); (try with_reducible rfl)
    try simp only [Act.put, List.setIfInBounds_toArray, List.set_cons_zero, List.set_cons_succ]
    refine wpAnyH_take (i := 3) (oi := { dst := some 41, op := Op.move (Operand.tmp 7), type := 3, pos := "law.go:384", after := #[], guard := none }) (v := ?_) rfl (by kernel_rfl) (by kernel_rfl) (by kernel_rfl) (fun _ _ _ h => h) (Or.inl ⟨by rfl, ?_⟩) (by assumption) ?_
    rotate_left
    · (intro w hSw; (try dsimp only at hSw); go_simp); (try with_reducible rfl)
    try simp only [Act.put, List.setIfInBounds_toArray, List.set_cons_zero, List.set_cons_succ]
    refine wpAnyH_take (i := 4) (oi := { dst := some 42, op := Op.binOp BinOp.add 3 (Operand.tmp 41) (Operand.const (Value.int IntKind.i64 1)) 3, type := 3, pos := "law.go:384", after := #[{ on := 3, ground := Ground.data }], guard := none }) (v := ?_) rfl (by kernel_rfl) (by kernel_rfl) (by kernel_rfl) (fun _ _ _ h => h) (Or.inl ⟨by rfl, ?_⟩) (by assumption) ?_
    rotate_left
    · (intro w hSw; (try dsimp only at hSw); go_simp); (try with_reducible rfl)
    try simp only [Act.put, List.setIfInBounds_toArray, List.set_cons_zero, List.set_cons_succ]
    refine wpAnyH_take (i := 5) (oi := { dst := some 43, op := Op.binOp BinOp.rem 3 (Operand.tmp 40) (Operand.tmp 42) 3, type := 3, pos := "law.go:384", after := #[{ on := 2, ground := Ground.data }, { on := 4, ground := Ground.data }], guard := none }) (v := ?_) rfl (by kernel_rfl) (by kernel_rfl) (by kernel_rfl) (fun _ _ _ h => h) (Or.inl ⟨by rfl, ?_⟩) (by assumption) ?_
    rotate_left
    · (intro w hSw; (try dsimp only at hSw); go_simp); (try with_reducible rfl)
    try simp only [Act.put, List.setIfInBounds_toArray, List.set_cons_zero, List.set_cons_succ]
    refine wpAnyH_take (i := 6) (oi := { dst := some 44, op := Op.indexAddr 76 (Operand.tmp 5) (Operand.const (Value.int IntKind.i64 1)), type := 0, pos := "law.go:384", after := #[], guard := none }) (v := ?_) rfl (by kernel_rfl) (by kernel_rfl) (by kernel_rfl) (fun _ _ _ h => h) (Or.inl ⟨by rfl, ?_⟩) (by assumption) ?_
    rotate_left
    · (intro w hSw; (try dsimp only at hSw); go_simp); (try with_reducible rfl)
    try simp only [Act.put, List.setIfInBounds_toArray, List.set_cons_zero, List.set_cons_succ]
    refine wpAnyH_take (i := 7) (oi := { dst := some 45, op := Op.load 5 (Operand.tmp 44), type := 5, pos := "law.go:384", after := #[{ on := 6, ground := Ground.data }], guard := none }) (v := ?_) rfl (by kernel_rfl) (by kernel_rfl) (by kernel_rfl) (fun _ _ _ h => h) (Or.inl ⟨by rfl, ?_⟩) (by assumption) ?_
    rotate_left
    · (intro w hSw; (try dsimp only at hSw); go_simp); (try with_reducible rfl)
    try simp only [Act.put, List.setIfInBounds_toArray, List.set_cons_zero, List.set_cons_succ]
    refine wpAnyH_take (i := 8) (oi := { dst := some 46, op := Op.convert 5 3 (Operand.tmp 45), type := 3, pos := "law.go:384", after := #[{ on := 7, ground := Ground.data }], guard := none }) (v := ?_) rfl (by kernel_rfl) (by kernel_rfl) (by kernel_rfl) (fun _ _ _ h => h) (Or.inl ⟨by rfl, ?_⟩) (by assumption) ?_
    rotate_left
    · (intro w hSw; (try dsimp only at hSw); go_simp); (try with_reducible rfl)
    try simp only [Act.put, List.setIfInBounds_toArray, List.set_cons_zero, List.set_cons_succ]
    refine wpAnyH_take (i := 9) (oi := { dst := some 47, op := Op.move (Operand.tmp 7), type := 3, pos := "law.go:384", after := #[], guard := none }) (v := ?_) rfl (by kernel_rfl) (by kernel_rfl) (by kernel_rfl) (fun _ _ _ h => h) (Or.inl ⟨by rfl, ?_⟩) (by assumption) ?_
    rotate_left
    · (intro w hSw; (try dsimp only at hSw); go_simp); (try with_reducible rfl)
    try simp only [Act.put, List.setIfInBounds_toArray, List.set_cons_zero, List.set_cons_succ]
    refine wpAnyH_take (i := 10) (oi := { dst := some 48, op := Op.binOp BinOp.add 3 (Operand.tmp 47) (Operand.const (Value.int IntKind.i64 1)) 3, type := 3, pos := "law.go:384", after := #[{ on := 9, ground := Ground.data }], guard := none }) (v := ?_) rfl (by kernel_rfl) (by kernel_rfl) (by kernel_rfl) (fun _ _ _ h => h) (Or.inl ⟨by rfl, ?_⟩) (by assumption) ?_
    rotate_left
    · (intro w hSw; (try dsimp only at hSw); go_simp); (try with_reducible rfl)
    try simp only [Act.put, List.setIfInBounds_toArray, List.set_cons_zero, List.set_cons_succ]
    refine wpAnyH_take (i := 11) (oi := { dst := some 49, op := Op.binOp BinOp.rem 3 (Operand.tmp 46) (Operand.tmp 48) 3, type := 3, pos := "law.go:384", after := #[{ on := 8, ground := Ground.data }, { on := 10, ground := Ground.data }], guard := none }) (v := ?_) rfl (by kernel_rfl) (by kernel_rfl) (by kernel_rfl) (fun _ _ _ h => h) (Or.inl ⟨by rfl, ?_⟩) (by assumption) ?_
    rotate_left
    · (intro w hSw; (try dsimp only at hSw); go_simp); (try with_reducible rfl)
    try simp only [Act.put, List.setIfInBounds_toArray, List.set_cons_zero, List.set_cons_succ]
    refine wpAnyH_take (i := 12) (oi := { dst := some 50, op := Op.indexAddr 76 (Operand.tmp 5) (Operand.const (Value.int IntKind.i64 2)), type := 0, pos := "law.go:384", after := #[], guard := none }) (v := ?_) rfl (by kernel_rfl) (by kernel_rfl) (by kernel_rfl) (fun _ _ _ h => h) (Or.inl ⟨by rfl, ?_⟩) (by assumption) ?_
    rotate_left
    · (intro w hSw; (try dsimp only at hSw); go_simp); (try with_reducible rfl)
    try simp only [Act.put, List.setIfInBounds_toArray, List.set_cons_zero, List.set_cons_succ]
    refine wpAnyH_take (i := 13) (oi := { dst := some 51, op := Op.load 5 (Operand.tmp 50), type := 5, pos := "law.go:384", after := #[{ on := 12, ground := Ground.data }], guard := none }) (v := ?_) rfl (by kernel_rfl) (by kernel_rfl) (by kernel_rfl) (fun _ _ _ h => h) (Or.inl ⟨by rfl, ?_⟩) (by assumption) ?_
    rotate_left
    · (intro w hSw; (try dsimp only at hSw); go_simp); (try with_reducible rfl)
    try simp only [Act.put, List.setIfInBounds_toArray, List.set_cons_zero, List.set_cons_succ]
    refine wpAnyH_take (i := 14) (oi := { dst := some 52, op := Op.convert 5 3 (Operand.tmp 51), type := 3, pos := "law.go:384", after := #[{ on := 13, ground := Ground.data }], guard := none }) (v := ?_) rfl (by kernel_rfl) (by kernel_rfl) (by kernel_rfl) (fun _ _ _ h => h) (Or.inl ⟨by rfl, ?_⟩) (by assumption) ?_
    rotate_left
    · (intro w hSw; (try dsimp only at hSw); go_simp); (try with_reducible rfl)
    try simp only [Act.put, List.setIfInBounds_toArray, List.set_cons_zero, List.set_cons_succ]
    refine wpAnyH_take (i := 15) (oi := { dst := some 53, op := Op.move (Operand.tmp 7), type := 3, pos := "law.go:384", after := #[], guard := none }) (v := ?_) rfl (by kernel_rfl) (by kernel_rfl) (by kernel_rfl) (fun _ _ _ h => h) (Or.inl ⟨by rfl, ?_⟩) (by assumption) ?_
    rotate_left
    · (intro w hSw; (try dsimp only at hSw); go_simp); (try with_reducible rfl)
    try simp only [Act.put, List.setIfInBounds_toArray, List.set_cons_zero, List.set_cons_succ]
    refine wpAnyH_take (i := 16) (oi := { dst := some 54, op := Op.binOp BinOp.add 3 (Operand.tmp 53) (Operand.const (Value.int IntKind.i64 1)) 3, type := 3, pos := "law.go:384", after := #[{ on := 15, ground := Ground.data }], guard := none }) (v := ?_) rfl (by kernel_rfl) (by kernel_rfl) (by kernel_rfl) (fun _ _ _ h => h) (Or.inl ⟨by rfl, ?_⟩) (by assumption) ?_
    rotate_left
    · (intro w hSw; (try dsimp only at hSw); go_simp); (try with_reducible rfl)
    try simp only [Act.put, List.setIfInBounds_toArray, List.set_cons_zero, List.set_cons_succ]
    refine wpAnyH_take (i := 17) (oi := { dst := some 55, op := Op.binOp BinOp.rem 3 (Operand.tmp 52) (Operand.tmp 54) 3, type := 3, pos := "law.go:384", after := #[{ on := 14, ground := Ground.data }, { on := 16, ground := Ground.data }], guard := none }) (v := ?_) rfl (by kernel_rfl) (by kernel_rfl) (by kernel_rfl) (fun _ _ _ h => h) (Or.inl ⟨by rfl, ?_⟩) (by assumption) ?_
    rotate_left
    · (intro w hSw; (try dsimp only at hSw); go_simp); (try with_reducible rfl)
    try simp only [Act.put, List.setIfInBounds_toArray, List.set_cons_zero, List.set_cons_succ]
    refine wpAnyH_take (i := 18) (oi := { dst := some 56, op := Op.build 26 #[(0, Operand.tmp 43), (1, Operand.tmp 49), (2, Operand.tmp 55)], type := 26, pos := "law.go:384", after := #[{ on := 5, ground := Ground.data }, { on := 11, ground := Ground.data }, { on := 17, ground := Ground.data }], guard := none }) (v := ?_) rfl (by kernel_rfl) (by kernel_rfl) (by kernel_rfl) (fun _ _ _ h => h) (Or.inl ⟨by rfl, ?_⟩) (by assumption) ?_
    rotate_left
    · (intro w hSw; (try dsimp only at hSw); go_simp); (try with_reducible rfl)
    try simp only [Act.put, List.setIfInBounds_toArray, List.set_cons_zero, List.set_cons_succ]
    refine wpAnyH_ready (rs := [19]) (by kernel_rfl) (by simp) ?_
    refine (AllReadyH.cons (o := { dst := some 9, op := Op.alloc 26, type := 0, pos := "law.go:384", after := #[], guard := none }) rfl (fun K hK => ?_) AllReadyH.nil)
    go_simp
    obtain ⟨wz19, hwz⟩ : ∃ v, v = wzd.alloc (Obj.cells #[.int .i64 0, .int .i64 0, .int .i64 0] 26) := ⟨_, rfl⟩
    rw [← hwz]
    have hl : Below wzd.heap.size wzd wz19 := by rw [hwz]; exact below_new _ _
    have hbz19 := bthen hbzd hl
    have iN : BlkI wz19 wzd.heap.size 26 (List.replicate 3 0) := by rw [hwz]; exact Blk.new _ _ _
    have hG : Wa.heap.size ≤ wzd.heap.size := (hbzd).size
    generalize wzd.heap.size = G9 at iN hG ⊢
    clear hwz
    clear hl
    refine hK.out _ _ ⟨cellb Q0.out hbz19, cellb Q1.out hbz19, cellb Q2.out hbz19⟩ (fun hHeld1 => ?_)
    clear hK K hHeld0
    try simp only [Act.put, List.setIfInBounds_toArray, List.set_cons_zero, List.set_cons_succ]
    refine wpAnyH_ready (rs := [20]) (by kernel_rfl) (by simp) ?_
    refine (AllReadyH.cons (o := { dst := none, op := Op.store 26 (Operand.tmp 9) (Operand.tmp 56), type := 0, pos := "law.go:384", after := #[{ on := 19, ground := Ground.data }, { on := 18, ground := Ground.data }, { on := 0, ground := Ground.phase }, { on := 1, ground := Ground.phase }, { on := 2, ground := Ground.phase }, { on := 3, ground := Ground.phase }, { on := 4, ground := Ground.phase }, { on := 5, ground := Ground.phase }, { on := 6, ground := Ground.phase }, { on := 7, ground := Ground.phase }, { on := 8, ground := Ground.phase }, { on := 9, ground := Ground.phase }, { on := 10, ground := Ground.phase }, { on := 11, ground := Ground.phase }, { on := 12, ground := Ground.phase }, { on := 13, ground := Ground.phase }, { on := 14, ground := Ground.phase }, { on := 15, ground := Ground.phase }, { on := 16, ground := Ground.phase }, { on := 17, ground := Ground.phase }, { on := 18, ground := Ground.phase }, { on := 19, ground := Ground.phase }], guard := none }) rfl (fun K hK => ?_) AllReadyH.nil)
    refine wp_storeA _ _ _ rfl G9 [(t0 : Int), (t1 : Int), (t2 : Int)] (List.replicate 3 0) rfl rfl iN rfl Tryz.infoA3 ?_
    obtain ⟨wz20, hwz⟩ : ∃ v, v = World.setRow wz19 G9 (ia [(t0 : Int), (t1 : Int), (t2 : Int)]) := ⟨_, rfl⟩
    rw [← hwz]
    have hbz20 : Below Wa.heap.size Wa wz20 := by rw [hwz]; exact below_rowA hbz19 hG _
    replace iN := BlkI.setRowA iN [(t0 : Int), (t1 : Int), (t2 : Int)]
    rw [← hwz] at iN
    clear hwz
    refine hK.out _ _ ⟨cellb Q0.out hbz20, cellb Q1.out hbz20, cellb Q2.out hbz20⟩ (fun hHeld2 => ?_)
    clear hK K hHeld1
    try simp only [Act.put, List.setIfInBounds_toArray, List.set_cons_zero, List.set_cons_succ]
    refine wpAnyH_done (by kernel_rfl) ?_ _
    clear hHeld2
    clear hA
    have hA := hbz20
    have i9 := iN
    obtain ⟨V1, hV1⟩ : ∃ v, v = wz20 := ⟨_, rfl⟩
    rw [← hV1] at hA i9 ⊢
    clear hV1 iN f0 f1 f2 f3 g0 g1 g2 g0' g1' g2' nz
    have hld := load3 (l := [(t0 : Int), (t1 : Int), (t2 : Int)]) rfl i9
    go_wp2_with (refine wpList_load rfl _ _ rfl hld ?_)
    refine (TQ.out V1).mono ?_
    rintro e V2 ⟨rfl, hb⟩
    clear hld
    replace i9 := i9.carry hb
    replace hA := bthen hA hb
    clear hb
    go_upto_region 7 with (refine wpList_storeA rfl _ _ _ rfl V2.heap.size QL (List.replicate 12 0) rfl rfl (BlkI.new V2 22 (List.replicate 12 0)) (by rw [HQL.out]; rfl) (by rw [HQL.out]; exact Tryz.infoA12) ?_)
    obtain ⟨V3, hV3⟩ : ∃ v, v = World.setRow (World.alloc V2 (Obj.cells #[.int .i64 0, .int .i64 0, .int .i64 0, .int .i64 0, .int .i64 0, .int .i64 0, .int .i64 0, .int .i64 0, .int .i64 0, .int .i64 0, .int .i64 0, .int .i64 0] 22)) V2.heap.size (ia (QL)) := ⟨_, rfl⟩
    have kV3 : Below V2.heap.size V2 V3 := by rw [hV3]; exact zrow_below _ _ _ _
    have iV3 : BlkI V3 V2.heap.size 22 (QL) := by rw [hV3]; exact zrow_blk V2 _ (List.replicate 12 0) _
    rw [← hV3]
    clear hV3
    replace i9 := i9.carry kV3
    replace hA := bthen hA kV3
    have i10 := iV3
    obtain ⟨G10, hG⟩ : ∃ G, G = V2.heap.size := ⟨_, rfl⟩
    rw [← hG] at i10 ⊢
    clear kV3 iV3 hG
    have hld := load12 HQL.out i10
    have hld2 := load7 HL7.out (HI4.out.carry hA)
    go_wp2_with (first | refine wpList_load rfl _ _ rfl hld ?_ | refine wpList_load rfl _ _ rfl hld2 ?_)
    refine (TX.out V3 (HW.out.carry hA)).mono ?_
    rintro e V4 ⟨⟨u12, rfl, hu12⟩, hb⟩
    clear hld hld2
    replace i9 := i9.carry hb
    replace i10 := i10.carry hb
    replace hA := bthen hA hb
    clear hb
    clear i10
    obtain ⟨xa, xc, rfl, hx1, hx2⟩ := hu12
    clear hx1 hx2 TX
    generalize XL.length = nX at HXL ⊢
    have hld := load3 (l := [(t0 : Int), (t1 : Int), (t2 : Int)]) rfl i9
    have hen := Tryz.enterBest1
    go_wp2_with (refine wpList_load rfl _ _ rfl hld ?_)
    refine (T1.out V4 (HW.out.carry hA)).mono ?_
    rintro e V5 ⟨rfl, hb⟩
    clear hld
    replace i9 := i9.carry hb
    replace hA := bthen hA hb
    clear hb
    go_upto_region 9 with (refine wpList_storeA rfl _ _ _ rfl V5.heap.size [s0, s1] (List.replicate 2 0) rfl rfl (BlkI.new V5 78 (List.replicate 2 0)) rfl Tryz.infoRoot ?_)
    obtain ⟨V6, hV6⟩ : ∃ v, v = World.setRow (World.alloc V5 (Obj.cells #[.int .i64 0, .int .i64 0] 78)) V5.heap.size (ia ([s0, s1])) := ⟨_, rfl⟩
    have kV6 : Below V5.heap.size V5 V6 := by rw [hV6]; exact zrow_below _ _ _ _
    have iV6 : BlkI V6 V5.heap.size 78 ([s0, s1]) := by rw [hV6]; exact zrow_blk V5 _ (List.replicate 2 0) _
    rw [← hV6]
    clear hV6
    replace i9 := i9.carry kV6
    replace hA := bthen hA kV6
    have i14 := iV6
    obtain ⟨G14, hG⟩ : ∃ G, G = V5.heap.size := ⟨_, rfl⟩
    rw [← hG] at i14 ⊢
    clear kV6 iV6 hG
    clear i9
    obtain ⟨D, hD⟩ : ∃ D, D = desR (n : Int) lim := ⟨_, rfl⟩
    rw [← hD] at TD DC
    obtain ⟨DT, DE⟩ := D
    obtain ⟨DL, hDL⟩ : ∃ L, L = triL DT := ⟨_, rfl⟩
    simp only at TD
    rw [← hDL] at TD
    have hDl : DL.length = 3 := by rw [hDL]; rfl
    have HDL := Lib.hid hDL
    have HDl := Lib.hid hDl
    clear hD hDL hDl
    have hld2 := load7 HL7.out (HI4.out.carry hA)
    go_wp2_with (refine wpList_load rfl _ _ rfl hld2 ?_)
    refine (TD.out V6 (HW.out.carry hA)).mono ?_
    rintro e V7 ⟨rfl, hb⟩
    clear hld2
    replace i14 := i14.carry hb
    replace hA := bthen hA hb
    clear hb
    go_upto_region 10 with (refine wpList_storeA rfl _ _ _ rfl V7.heap.size DL (List.replicate 3 0) rfl rfl (BlkI.new V7 26 (List.replicate 3 0)) (by rw [HDl.out]; rfl) (by rw [HDl.out]; exact Tryz.infoA3) ?_)
    obtain ⟨V8, hV8⟩ : ∃ v, v = World.setRow (World.alloc V7 (Obj.cells #[.int .i64 0, .int .i64 0, .int .i64 0] 26)) V7.heap.size (ia (DL)) := ⟨_, rfl⟩
    have kV8 : Below V7.heap.size V7 V8 := by rw [hV8]; exact zrow_below _ _ _ _
    have iV8 : BlkI V8 V7.heap.size 26 (DL) := by rw [hV8]; exact zrow_blk V7 _ (List.replicate 3 0) _
    rw [← hV8]
    clear hV8
    replace i14 := i14.carry kV8
    replace hA := bthen hA kV8
    have i16 := iV8
    obtain ⟨G16, hG⟩ : ∃ G, G = V7.heap.size := ⟨_, rfl⟩
    rw [← hG] at i16 ⊢
    clear kV8 iV8 hG
    rcases DC.out with ⟨hr, hno⟩ | ⟨x, y, z, hxyz, hr, hex, hgt, hmax⟩
    · obtain ⟨rfl, rfl⟩ := Prod.mk.inj hr
      have HNO := Lib.hid hno
      have HLL := Lib.hid (And.intro l0 (And.intro l1 l2))
      clear hr hno DC TD2 BM TQ2 TX2 TE2 T12 EV SB l0 l1 l2
      by_cases hX : nX = 0
      · have hz : (s0, s1) = (0, 0) := HST.out.symm.trans (HNO.out t0 t1 t2 HLL.out.1 HLL.out.2.1 HLL.out.2.2 (HXL.out hX))
        obtain ⟨rfl, rfl⟩ := Prod.mk.inj hz
        have hX0 : ((nX : Nat) : Int) = 0 := by omega
        have c0 : V8.cell? ⟨G14, 0, none⟩ = some (.int .i64 0) := BlkI.cell i14 (j := 0) (by simp)
        have c1 : V8.cell? ⟨G14, 1, none⟩ = some (.int .i64 0) := BlkI.cell i14 (j := 1) (by simp)
        clear hz hX
        go_wp2_with fail
        refine (TAW.out V8 (HW.out.carry hA) (HP.out.carry hA)).mono ?_
        rintro e V9 ⟨rfl, hb⟩
        go_wp2_with fail
        go_ret
        exact ⟨rfl, bthen HB.out (bthen hA hb)⟩
      · have hX0 : (0 : Int) < ((nX : Nat) : Int) := by omega
        have hX1 : 0 < nX := by omega
        go_wp2_with fail
        refine (TAW.out V8 (HW.out.carry hA) (HP.out.carry hA)).mono ?_
        rintro e V9 ⟨rfl, hb⟩
        go_wp2_with fail
        go_ret
        exact ⟨rfl, bthen HB.out (bthen hA hb)⟩
    · obtain ⟨rfl, rfl⟩ := Prod.mk.inj hr
      have hx1 : x ≤ n + 1 ∧ y ≤ n + 1 ∧ z ≤ n + 1 := by omega
      obtain ⟨x', y', z', hx2, hr2, hsg⟩ := BM.out x y z hxyz hex hgt
      have hb1 := SB.out x y z hx1
      have hb2 := SB.out x' y' z' hx2
      obtain ⟨ev2, ev4, ev6⟩ := EV.out x y z hx1
      have TA := Lib.hid (fun W hW => T12.out x y z hx1 W hW)
      have TB := Lib.hid (fun W => TQ2.out x y z hx1 W)
      have TC := Lib.hid (fun W hW => TX2.out x y z hx1 W hW)
      have TE := Lib.hid (fun W hW => TE2.out x y z hx1 W hW)
      have TM := Lib.hid (fun W hW => T12.out x' y' z' hx2 W hW)
      rw [hr2] at TD2
      have HMX := Lib.hid (fun he => hmax t0 t1 t2 l0 l1 l2 he)
      (try simp only at TA)
      (try simp only at TB)
      (try simp only at TM)
      have hXY : (0 ≤ x ∧ x ≤ n) ∧ (0 ≤ y ∧ y ≤ n) ∧ (0 ≤ z ∧ z ≤ n) := by omega
      have hDT : DL = [(x : Int), (y : Int), (z : Int)] := HDL.out
      rw [← hDT] at TA TB
      have hdl : ∀ k : Nat, k < 3 → 0 ≤ DL[k]?.getD 0 ∧ DL[k]?.getD 0 ≤ n := fun k hk => by
        rw [hDT]
        obtain rfl | rfl | rfl : k = 0 ∨ k = 1 ∨ k = 2 := by omega
        · show (0 : Int) ≤ (x : Int) ∧ (x : Int) ≤ n; omega
        · show (0 : Int) ≤ (y : Int) ∧ (y : Int) ≤ n; omega
        · show (0 : Int) ≤ (z : Int) ∧ (z : Int) ≤ n; omega
      have HDLB := Lib.hid hdl
      clear hdl hDT
      have hd2 : triL (((x' : Nat) : Int), ((y' : Nat) : Int), ((z' : Nat) : Int)) = [(x' : Int), (y' : Int), (z' : Int)] := rfl
      simp only at TD2
      rw [hd2] at TD2
      obtain ⟨D2, hD2⟩ : ∃ L, L = [(x' : Int), (y' : Int), (z' : Int)] := ⟨_, rfl⟩
      rw [← hD2] at TD2 TM
      have hD2l : D2.length = 3 := by rw [hD2]; rfl
      have HD2l := Lib.hid hD2l
      clear hd2 hD2 hD2l
      have hex0 : (excL (triQ ((x : Int), (y : Int), (z : Int))) lim).length = 0 := hex
      have hexn := List.length_eq_zero_iff.1 hex0
      rw [hexn] at TC
      have hel : (chosenL (fun h => cyIs0 (orderC (triQ ((x : Int), (y : Int), (z : Int))) h)) 1 6).length ≤ 1000000000 := Nat.le_trans (chosenL_le _ 1 6) (by omega)
      generalize chosenL (fun h => cyIs0 (orderC (triQ ((x : Int), (y : Int), (z : Int))) h)) 1 6 = EL at TE ev2 ev4 ev6 hel
      have HEL := Lib.hid hel
      have hP12 : (triQ ((x : Int), (y : Int), (z : Int))).length = 12 := rfl
      generalize triQ ((x : Int), (y : Int), (z : Int)) = PL at TB TC TE hP12 hexn
      generalize strT ((x : Int), (y : Int), (z : Int)) = b at *
      generalize strT ((x' : Int), (y' : Int), (z' : Int)) = m at *
      obtain ⟨b0, b1⟩ := b
      obtain ⟨m0, m1⟩ := m
      (try simp only at TA)
      (try simp only at TM)
      (try simp only at hb1)
      (try simp only at hb2)
      (try simp only at hsg)
      have hgt2 : ¬ (b0 = 0 ∧ b1 = 0) := fun h => by
        rw [h.1, h.2] at hgt
        exact absurd hgt (gtR_irr _)
      have hbz : (b0 == 0 && b1 == 0) = false := by by_cases h1 : b0 = 0 <;> by_cases h2 : b1 = 0 <;> simp [h1, h2] <;> exact hgt2 ⟨h1, h2⟩
      have HBZ := Lib.hid (fun W => by
        have := eqRoot0 b0 b1 W
        rw [hbz] at this
        exact this)
      have hmx : nX = 0 → sgnR (s0 - b0) (s1 - b1) ≤ 0 := fun h => by
        have := HMX.out (HXL.out h)
        rw [HST.out] at this
        unfold gtR at this
        rw [← sgn_pos] at this
        simp only at this
        omega
      have HM2 := Lib.hid hmx
      have HSG := Lib.hid hsg
      have hs1 := HSB.out
      (try simp only at hs1)
      have TS1 := Lib.hid (fun W => SignR_any (s0 - b0) (s1 - b1) W (by omega) (by omega))
      have TS2 := Lib.hid (fun W => SignR_any (m0 - b0) (m1 - b1) W (by omega) (by omega))
      generalize sgnR (s0 - b0) (s1 - b1) = sg1 at TS1 HM2
      generalize sgnR (m0 - b0) (m1 - b1) = sg2 at TS2 HSG
      obtain ⟨r0, hr0⟩ : ∃ r, r = s0 - b0 := ⟨_, rfl⟩
      obtain ⟨r1, hr1⟩ : ∃ r, r = s1 - b1 := ⟨_, rfl⟩
      obtain ⟨r2, hr2'⟩ : ∃ r, r = m0 - b0 := ⟨_, rfl⟩
      obtain ⟨r3, hr3⟩ : ∃ r, r = m1 - b1 := ⟨_, rfl⟩
      have w0 : IntKind.i64.wrap (s0 - b0) = r0 := (IntWalk.i64_in _ (by omega)).trans hr0.symm
      have w1 : IntKind.i64.wrap (s1 - b1) = r1 := (IntWalk.i64_in _ (by omega)).trans hr1.symm
      have w2 : IntKind.i64.wrap (m0 - b0) = r2 := (IntWalk.i64_in _ (by omega)).trans hr2'.symm
      have w3 : IntKind.i64.wrap (m1 - b1) = r3 := (IntWalk.i64_in _ (by omega)).trans hr3.symm
      rw [← hr0, ← hr1] at TS1
      rw [← hr2', ← hr3] at TS2
      clear hr0 hr1 hr2' hr3
      have HWF := Lib.hid (And.intro w0 (And.intro w1 (And.intro w2 w3)))
      have HP12 := Lib.hid hP12
      have HEV := Lib.hid (And.intro ev2 (And.intro ev4 ev6))
      clear hgt2 hbz hmx hs1 hsg w0 w1 w2 w3 hP12 ev2 ev4 ev6 hel hgt hmax hex hex0 hexn hb1 hb2 hr hr2 hxyz hXY hx1 hx2 DC TD BM TQ2 TX2 TE2 T12 EV SB TQ T1 HST HSB HXL HMX HT l0 l1 l2
      have hld := load3 HDl.out i16
      go_wp2_with (refine wpList_load rfl _ _ rfl hld ?_)
      clear hld
      have HI := Lib.hid (And.intro i14 i16)
      have HA8 := Lib.hid hA
      clear i14 i16 hA
      go_loopw [108] (fun i wr => ∃ k : Nat, k ≤ 3 ∧ i = .int .i64 k ∧ Below V8.heap.size V8 wr) (fun i _ => 3 - (intOf i).toNat)
      case atStart => exact ⟨0, by omega, rfl, Below.refl _ _⟩
      case round =>
        obtain ⟨k, hk, rfl, h8⟩ := hrel
        by_cases hlt : k < 3
        · have d1 : (k : Int) < 3 := by omega
          have hix := fun W => idx3 HDl.out hlt W
          obtain ⟨hd0, hd1⟩ := HDLB.out k hlt
          generalize DL[k]?.getD 0 = d at hix hd0 hd1
          have d2 : decide (d < 0) = false := decide_eq_false (by omega)
          have d3 : decide ((n : Int) < d) = false := decide_eq_false (by omega)
          go_wp2_with fail
          go_roundw
          case rel => exact ⟨k + 1, by omega, by go_num, h8⟩
          case measure => simp [intOf]; omega
        · obtain rfl : k = 3 := by omega
          have i14 := HI.out.1.carry h8
          have i16 := HI.out.2.carry h8
          have hA := bthen HA8.out h8
          clear h8 hlt hk
          have hld := load3 HDl.out i16
          go_wp2_with (refine wpList_load rfl _ _ rfl hld ?_)
          refine (TA.out wr (HW.out.carry hA)).mono ?_
          rintro e Y1 ⟨rfl, hb⟩
          clear hld
          replace i14 := i14.carry hb
          replace i16 := i16.carry hb
          replace hA := bthen hA hb
          clear hb
          go_upto_region 21 with (refine wpList_storeA rfl _ _ _ rfl Y1.heap.size [b0, b1] (List.replicate 2 0) rfl rfl (BlkI.new Y1 78 (List.replicate 2 0)) rfl Tryz.infoRoot ?_)
          obtain ⟨Y2, hY2⟩ : ∃ v, v = World.setRow (World.alloc Y1 (Obj.cells #[.int .i64 0, .int .i64 0] 78)) Y1.heap.size (ia ([b0, b1])) := ⟨_, rfl⟩
          have kY2 : Below Y1.heap.size Y1 Y2 := by rw [hY2]; exact zrow_below _ _ _ _
          have iY2 : BlkI Y2 Y1.heap.size 78 ([b0, b1]) := by rw [hY2]; exact zrow_blk Y1 _ (List.replicate 2 0) _
          rw [← hY2]
          clear hY2
          replace i14 := i14.carry kY2
          replace i16 := i16.carry kY2
          replace hA := bthen hA kY2
          have i20 := iY2
          obtain ⟨G20, hG⟩ : ∃ G, G = Y1.heap.size := ⟨_, rfl⟩
          rw [← hG] at i20 ⊢
          clear kY2 iY2 hG
          have hld := load3 HDl.out i16
          go_wp2_with (refine wpList_load rfl _ _ rfl hld ?_)
          refine (TB.out Y2).mono ?_
          rintro e Y3 ⟨rfl, hb⟩
          clear hld
          replace i14 := i14.carry hb
          replace i16 := i16.carry hb
          replace i20 := i20.carry hb
          replace hA := bthen hA hb
          clear hb
          clear i16
          go_upto_region 22 with (refine wpList_storeA rfl _ _ _ rfl Y3.heap.size PL (List.replicate 12 0) rfl rfl (BlkI.new Y3 22 (List.replicate 12 0)) (by rw [HP12.out]; rfl) (by rw [HP12.out]; exact Tryz.infoA12) ?_)
          obtain ⟨Y4, hY4⟩ : ∃ v, v = World.setRow (World.alloc Y3 (Obj.cells #[.int .i64 0, .int .i64 0, .int .i64 0, .int .i64 0, .int .i64 0, .int .i64 0, .int .i64 0, .int .i64 0, .int .i64 0, .int .i64 0, .int .i64 0, .int .i64 0] 22)) Y3.heap.size (ia (PL)) := ⟨_, rfl⟩
          have kY4 : Below Y3.heap.size Y3 Y4 := by rw [hY4]; exact zrow_below _ _ _ _
          have iY4 : BlkI Y4 Y3.heap.size 22 (PL) := by rw [hY4]; exact zrow_blk Y3 _ (List.replicate 12 0) _
          rw [← hY4]
          clear hY4
          replace i14 := i14.carry kY4
          replace i20 := i20.carry kY4
          replace hA := bthen hA kY4
          have i21 := iY4
          obtain ⟨G21, hG⟩ : ∃ G, G = Y3.heap.size := ⟨_, rfl⟩
          rw [← hG] at i21 ⊢
          clear kY4 iY4 hG
          have hld := load12 HP12.out i21
          have hld2 := load7 HL7.out (HI4.out.carry hA)
          go_wp2_with (first | refine wpList_load rfl _ _ rfl hld ?_ | refine wpList_load rfl _ _ rfl hld2 ?_)
          refine (TC.out Y4 (HW.out.carry hA)).mono ?_
          rintro e Y5 ⟨⟨u23, rfl, hu23⟩, hb⟩
          clear hld hld2
          obtain ⟨na, nc, rfl, hn1, hn2⟩ := hu23
          clear hn1 hn2
          replace i14 := i14.carry hb
          replace i20 := i20.carry hb
          replace i21 := i21.carry hb
          replace hA := bthen hA hb
          clear hb
          have hld := load12 HP12.out i21
          go_wp2_with (refine wpList_load rfl _ _ rfl hld ?_)
          refine (TE.out Y5 (HW.out.carry hA)).mono ?_
          rintro e Y6 ⟨⟨u25, rfl, hu25⟩, hb⟩
          clear hld
          replace i14 := i14.carry hb
          replace i20 := i20.carry hb
          replace i21 := i21.carry hb
          replace hA := bthen hA hb
          clear hb
          clear i21
          have k0 : Y6.cell? ⟨G20, 0, none⟩ = some (.int .i64 b0) := BlkI.cell i20 (j := 0) (by simp)
          have k1 : Y6.cell? ⟨G20, 1, none⟩ = some (.int .i64 b1) := BlkI.cell i20 (j := 1) (by simp)
          have TH2 := Lib.hid (HasInt_any u25 EL 2 Y6 HEL.out hu25)
          have TH4 := Lib.hid (HasInt_any u25 EL 4 Y6 HEL.out hu25)
          have TH6 := Lib.hid (HasInt_any u25 EL 6 Y6 HEL.out hu25)
          rw [HEV.out.1] at TH2
          rw [HEV.out.2.1] at TH4
          rw [HEV.out.2.2] at TH6
          have hbz := HBZ.out
          go_wp2_with fail
          refine TH2.out.mono ?_
          rintro e Y7 ⟨rfl, rfl⟩
          go_wp2_with fail
          refine TH4.out.mono ?_
          rintro e Y7 ⟨rfl, rfl⟩
          go_wp2_with fail
          refine TH6.out.mono ?_
          rintro e Y7 ⟨rfl, rfl⟩
          clear TH2 TH4 TH6 hbz
          obtain ⟨w0, w1, w2, w3⟩ := HWF.out
          have j0 : Y6.cell? ⟨G14, 0, none⟩ = some (.int .i64 s0) := BlkI.cell i14 (j := 0) (by simp)
          have j1 : Y6.cell? ⟨G14, 1, none⟩ = some (.int .i64 s1) := BlkI.cell i14 (j := 1) (by simp)
          have HI20 := Lib.hid i20
          clear i14 i20
          go_upto_region 26 with fail
          go_cut [197] from 180 to 197 (fun u197 wn => u197 = .bool false ∧ Below Y6.heap.size Y6 wn)
          case first =>
            rcases Nat.eq_zero_or_pos nX with hX | hX
            · have hsg1 : decide (0 < sg1) = false := decide_eq_false (by have := HM2.out hX; omega)
              subst hX
              go_wp2_with fail
              refine (TS1.out Y6).mono ?_
              rintro e Y8 ⟨rfl, hb⟩
              go_wp2_with fail
              go_meet
              exact ⟨rfl, hb⟩
            · have hX1 : (nX == 0) = false := by rw [beq_eq_false_iff_ne]; omega
              go_wp2_with fail
              go_meet
              exact ⟨rfl, Below.refl _ _⟩
          case rest =>
            obtain ⟨rfl, hb⟩ := hcut
            have i20 := HI20.out.carry hb
            have hne27 : G20 < wc.heap.size := Blk.lt i20
            replace hA := bthen hA hb
            clear hb j0 j1 k0 k1 hu25
            have hld2 := load7 HL7.out (HI4.out.carry hA)
            go_upto_region 29 with (first | refine wpList_load rfl _ _ rfl hld2 ?_ | refine wpList_storeA rfl _ _ _ rfl wc.heap.size lim (List.replicate 7 0) rfl rfl (BlkI.new wc 23 (List.replicate 7 0)) (by rw [HL7.out]; rfl) (by rw [HL7.out]; exact Tryz.infoA7) ?_)
            obtain ⟨Z1, hZ1⟩ : ∃ v, v = World.setRow (World.alloc wc (Obj.cells #[.int .i64 0, .int .i64 0, .int .i64 0, .int .i64 0, .int .i64 0, .int .i64 0, .int .i64 0] 23)) wc.heap.size (ia (lim)) := ⟨_, rfl⟩
            have kZ1 : Below wc.heap.size wc Z1 := by rw [hZ1]; exact zrow_below _ _ _ _
            have iZ1 : BlkI Z1 wc.heap.size 23 (lim) := by rw [hZ1]; exact zrow_blk wc _ (List.replicate 7 0) _
            rw [← hZ1]
            clear hZ1
            replace i20 := i20.carry kZ1
            have hg27 : Wa.heap.size ≤ wc.heap.size := hA.size
            replace hA := bthen hA kZ1
            have i27 := iZ1
            obtain ⟨G27, hG⟩ : ∃ G, G = wc.heap.size := ⟨_, rfl⟩
            rw [← hG] at i27 hg27 hne27 ⊢
            clear kZ1 iZ1 hG hld2
            obtain ⟨lq, hlq⟩ : ∃ v, v = lim[q]?.getD 0 := ⟨_, rfl⟩
            have hlq2 := HLQ.out
            rw [← hlq] at hlq2
            obtain ⟨wv, hwv⟩ : ∃ v, v = (if lq + 1 ≤ 256 then lq + 1 else 256) := ⟨_, rfl⟩
            have HWV := Lib.hid (show lim.set q wv = wider lim q by rw [wider, hwv, hlq])
            go_upto_region 29 with fail
            have f0 : IntKind.i64.wrap (aN : Int) = (aN : Int) := IntWalk.i64_in _ (by omega)
            obtain ⟨a5, ha5⟩ : ∃ x, x = aN % 5 := ⟨_, rfl⟩
            have f1 : (aN : Int).tmod 5 = (a5 : Int) := by rw [ha5]; rfl
            have f1' : (aN : Int) % 5 = (a5 : Int) := by rw [ha5]; rfl
            have hqa : q = 2 + a5 := by rw [ha5]; exact HQ.out
            have f2 : IntKind.i64.wrap (2 + (a5 : Int)) = (q : Int) := (IntWalk.i64_in _ (by omega)).trans (by omega)
            have f3 : IntKind.i64.wrap (lq + 1) = lq + 1 := IntWalk.i64_in _ (by omega)
            have f4 : (q : Int) < 7 := by omega
            have HLQE := Lib.hid hlq
            have HNE := Lib.hid hne27
            have HG27 := Lib.hid hg27
            clear hlq ha5 hqa hne27 hg27
            skip
            have hwe : wv = (min 256 (lq + 1)) := by rw [hwv]; split <;> omega
            have HWE := Lib.hid hwe
            clear hwe hwv
            refine wp_region_held_drew (S := (fun W => W.cell? ⟨G5, 0, none⟩ = some (.int .u8 (aN : Int)))) (by kernel_rfl) (cellb Q0.out hA.drew) (fun hHeld0 => ?_)
            obtain ⟨wzd, hwz⟩ : ∃ v, v = Z1.drew := ⟨_, rfl⟩
            rw [← hwz] at hHeld0 ⊢
            have hbzd : Below Wa.heap.size Wa wzd := by rw [hwz]; exact hA.drew
            have hlzd : Below Z1.heap.size Z1 wzd := by rw [hwz]; exact (Below.refl _ _).drew
            have i27 := i27.carry hlzd
            have i20 := i20.carry hlzd
            clear hwz hlzd
            refine wpAnyH_take (i := 0) (oi := { dst := some 199, op := Op.indexAddr 76 (Operand.tmp 5) (Operand.const (Value.int IntKind.i64 0)), type := 0, pos := "law.go:411", after := #[], guard := none }) (v := ?_) rfl (by kernel_rfl) (by kernel_rfl) (by kernel_rfl) (fun _ _ _ h => h) (Or.inl ⟨by rfl, ?_⟩) (by assumption) ?_
            rotate_left
            · (intro w hSw; (try dsimp only at hSw); go_simp); (try with_reducible rfl)
            try simp only [Act.put, List.setIfInBounds_toArray, List.set_cons_zero, List.set_cons_succ]
            refine wpAnyH_take (i := 1) (oi := { dst := some 200, op := Op.load 5 (Operand.tmp 199), type := 5, pos := "law.go:411", after := #[{ on := 0, ground := Ground.data }], guard := none }) (v := ?_) rfl (by kernel_rfl) (by kernel_rfl) (by kernel_rfl) (fun _ _ _ h => h) (Or.inl ⟨by rfl, ?_⟩) (by assumption) ?_
            rotate_left
            · (intro w hSw; (try dsimp only at hSw); go_simp); (try with_reducible rfl)
            try simp only [Act.put, List.setIfInBounds_toArray, List.set_cons_zero, List.set_cons_succ]
            refine wpAnyH_take (i := 2) (oi := { dst := some 201, op := Op.convert 5 3 (Operand.tmp 200), type := 3, pos := "law.go:411", after := #[{ on := 1, ground := Ground.data }], guard := none }) (v := ?_) rfl (by kernel_rfl) (by kernel_rfl) (by kernel_rfl) (fun _ _ _ h => h) (Or.inl ⟨by rfl, ?_⟩) (by assumption) ?_
            rotate_left
            · (intro w hSw; (try dsimp only at hSw); go_simp); (try with_reducible rfl)
            try simp only [Act.put, List.setIfInBounds_toArray, List.set_cons_zero, List.set_cons_succ]
            refine wpAnyH_take (i := 3) (oi := { dst := some 202, op := Op.binOp BinOp.rem 3 (Operand.tmp 201) (Operand.const (Value.int IntKind.i64 5)) 3, type := 3, pos := "law.go:411", after := #[{ on := 2, ground := Ground.data }], guard := none }) (v := ?_) rfl (by kernel_rfl) (by kernel_rfl) (by kernel_rfl) (fun _ _ _ h => h) (Or.inl ⟨by rfl, ?_⟩) (by assumption) ?_
            rotate_left
            · (intro w hSw; (try dsimp only at hSw); go_simp); (try with_reducible rfl)
            try simp only [Act.put, List.setIfInBounds_toArray, List.set_cons_zero, List.set_cons_succ]
            refine wpAnyH_take (i := 4) (oi := { dst := some 203, op := Op.binOp BinOp.add 3 (Operand.const (Value.int IntKind.i64 2)) (Operand.tmp 202) 3, type := 3, pos := "law.go:411", after := #[{ on := 3, ground := Ground.data }], guard := none }) (v := ?_) rfl (by kernel_rfl) (by kernel_rfl) (by kernel_rfl) (fun _ _ _ h => h) (Or.inl ⟨by rfl, ?_⟩) (by assumption) ?_
            rotate_left
            · (intro w hSw; (try dsimp only at hSw); go_simp); (try with_reducible rfl)
            try simp only [Act.put, List.setIfInBounds_toArray, List.set_cons_zero, List.set_cons_succ]
            refine wpAnyH_take (i := 5) (oi := { dst := some 204, op := Op.indexAddr 76 (Operand.tmp 5) (Operand.const (Value.int IntKind.i64 0)), type := 0, pos := "law.go:411", after := #[], guard := none }) (v := ?_) rfl (by kernel_rfl) (by kernel_rfl) (by kernel_rfl) (fun _ _ _ h => h) (Or.inl ⟨by rfl, ?_⟩) (by assumption) ?_
            rotate_left
            · (intro w hSw; (try dsimp only at hSw); go_simp); (try with_reducible rfl)
            try simp only [Act.put, List.setIfInBounds_toArray, List.set_cons_zero, List.set_cons_succ]
            refine wpAnyH_take (i := 6) (oi := { dst := some 205, op := Op.load 5 (Operand.tmp 204), type := 5, pos := "law.go:411", after := #[{ on := 5, ground := Ground.data }], guard := none }) (v := ?_) rfl (by kernel_rfl) (by kernel_rfl) (by kernel_rfl) (fun _ _ _ h => h) (Or.inl ⟨by rfl, ?_⟩) (by assumption) ?_
            rotate_left
            · (intro w hSw; (try dsimp only at hSw); go_simp); (try with_reducible rfl)
            try simp only [Act.put, List.setIfInBounds_toArray, List.set_cons_zero, List.set_cons_succ]
            refine wpAnyH_take (i := 7) (oi := { dst := some 206, op := Op.convert 5 3 (Operand.tmp 205), type := 3, pos := "law.go:411", after := #[{ on := 6, ground := Ground.data }], guard := none }) (v := ?_) rfl (by kernel_rfl) (by kernel_rfl) (by kernel_rfl) (fun _ _ _ h => h) (Or.inl ⟨by rfl, ?_⟩) (by assumption) ?_
            rotate_left
            · (intro w hSw; (try dsimp only at hSw); go_simp); (try with_reducible rfl)
            try simp only [Act.put, List.setIfInBounds_toArray, List.set_cons_zero, List.set_cons_succ]
            refine wpAnyH_take (i := 8) (oi := { dst := some 207, op := Op.binOp BinOp.rem 3 (Operand.tmp 206) (Operand.const (Value.int IntKind.i64 5)) 3, type := 3, pos := "law.go:411", after := #[{ on := 7, ground := Ground.data }], guard := none }) (v := ?_) rfl (by kernel_rfl) (by kernel_rfl) (by kernel_rfl) (fun _ _ _ h => h) (Or.inl ⟨by rfl, ?_⟩) (by assumption) ?_
            rotate_left
            · (intro w hSw; (try dsimp only at hSw); go_simp); (try with_reducible rfl)
            try simp only [Act.put, List.setIfInBounds_toArray, List.set_cons_zero, List.set_cons_succ]
            refine wpAnyH_take (i := 9) (oi := { dst := some 208, op := Op.binOp BinOp.add 3 (Operand.const (Value.int IntKind.i64 2)) (Operand.tmp 207) 3, type := 3, pos := "law.go:411", after := #[{ on := 8, ground := Ground.data }], guard := none }) (v := ?_) rfl (by kernel_rfl) (by kernel_rfl) (by kernel_rfl) (fun _ _ _ h => h) (Or.inl ⟨by rfl, ?_⟩) (by assumption) ?_
            rotate_left
            · (intro w hSw; (try dsimp only at hSw); go_simp); (try with_reducible rfl)
            try simp only [Act.put, List.setIfInBounds_toArray, List.set_cons_zero, List.set_cons_succ]
            refine wpAnyH_take (i := 10) (oi := { dst := some 209, op := Op.indexAddr 23 (Operand.tmp 27) (Operand.tmp 208), type := 0, pos := "law.go:411", after := #[{ on := 9, ground := Ground.data }], guard := none }) (v := ?_) rfl (by kernel_rfl) (by kernel_rfl) (by kernel_rfl) (fun _ _ _ h => h) (Or.inl ⟨by rfl, ?_⟩) (by assumption) ?_
            rotate_left
            · (intro w hSw; (try dsimp only at hSw); go_simp); (try with_reducible rfl)
            try simp only [Act.put, List.setIfInBounds_toArray, List.set_cons_zero, List.set_cons_succ]
            refine wpAnyH_ready (rs := [11]) (by kernel_rfl) (by simp) ?_
            refine (AllReadyH.cons (o := { dst := some 210, op := Op.load 3 (Operand.tmp 209), type := 3, pos := "law.go:411", after := #[{ on := 10, ground := Ground.data }], guard := none }) rfl (fun K hK => ?_) AllReadyH.nil)
            have cq : World.cell? wzd ⟨G27, q, none⟩ = some (.int .i64 lq) := by rw [HLQE.out]; exact BlkI.cell (l := lim) i27 (j := q) (by rw [HL7.out]; exact hq7)
            go_simp
            refine hK.out _ _ (cellb Q0.out hbzd) (fun hHeld1 => ?_)
            clear hK K hHeld0
            try simp only [Act.put, List.setIfInBounds_toArray, List.set_cons_zero, List.set_cons_succ]
            refine wpAnyH_take (i := 12) (oi := { dst := some 211, op := Op.binOp BinOp.add 3 (Operand.tmp 210) (Operand.const (Value.int IntKind.i64 1)) 3, type := 3, pos := "law.go:411", after := #[{ on := 11, ground := Ground.data }], guard := none }) (v := ?_) rfl (by kernel_rfl) (by kernel_rfl) (by kernel_rfl) (fun _ _ _ h => h) (Or.inl ⟨by rfl, ?_⟩) (by assumption) ?_
            rotate_left
            · (intro w hSw; (try dsimp only at hSw); go_simp); (try with_reducible rfl)
            try simp only [Act.put, List.setIfInBounds_toArray, List.set_cons_zero, List.set_cons_succ]
            refine wpAnyH_take (i := 13) (oi := { dst := some 212, op := Op.call { callee := Callee.builtin Builtin.min, args := #[Operand.const (Value.int IntKind.i64 256), Operand.tmp 211], argTypes := #[3, 3] }, type := 3, pos := "law.go:411", after := #[{ on := 12, ground := Ground.data }], guard := none }) (v := ?_) rfl (by kernel_rfl) (by kernel_rfl) (by kernel_rfl) (fun _ _ _ h => h) (Or.inl ⟨by rfl, ?_⟩) (by assumption) ?_
            rotate_left
            · (intro w hSw; (try dsimp only at hSw); go_simp); (try with_reducible rfl)
            try simp only [Act.put, List.setIfInBounds_toArray, List.set_cons_zero, List.set_cons_succ]
            refine wpAnyH_take (i := 14) (oi := { dst := some 213, op := Op.indexAddr 23 (Operand.tmp 27) (Operand.tmp 203), type := 0, pos := "law.go:411", after := #[{ on := 4, ground := Ground.data }, { on := 0, ground := Ground.phase }, { on := 1, ground := Ground.phase }, { on := 2, ground := Ground.phase }, { on := 3, ground := Ground.phase }, { on := 4, ground := Ground.phase }, { on := 5, ground := Ground.phase }, { on := 6, ground := Ground.phase }, { on := 7, ground := Ground.phase }, { on := 8, ground := Ground.phase }, { on := 9, ground := Ground.phase }, { on := 10, ground := Ground.phase }, { on := 11, ground := Ground.phase }, { on := 12, ground := Ground.phase }, { on := 13, ground := Ground.phase }], guard := none }) (v := ?_) rfl (by kernel_rfl) (by kernel_rfl) (by kernel_rfl) (fun _ _ _ h => h) (Or.inl ⟨by rfl, ?_⟩) (by assumption) ?_
            rotate_left
            · (intro w hSw; (try dsimp only at hSw); go_simp); (try with_reducible rfl)
            try simp only [Act.put, List.setIfInBounds_toArray, List.set_cons_zero, List.set_cons_succ]
            refine wpAnyH_ready (rs := [15]) (by kernel_rfl) (by simp) ?_
            refine (AllReadyH.cons (o := { dst := none, op := Op.store 3 (Operand.tmp 213) (Operand.tmp 212), type := 0, pos := "law.go:411", after := #[{ on := 14, ground := Ground.data }, { on := 13, ground := Ground.data }, { on := 0, ground := Ground.phase }, { on := 1, ground := Ground.phase }, { on := 2, ground := Ground.phase }, { on := 3, ground := Ground.phase }, { on := 4, ground := Ground.phase }, { on := 5, ground := Ground.phase }, { on := 6, ground := Ground.phase }, { on := 7, ground := Ground.phase }, { on := 8, ground := Ground.phase }, { on := 9, ground := Ground.phase }, { on := 10, ground := Ground.phase }, { on := 11, ground := Ground.phase }, { on := 12, ground := Ground.phase }, { on := 13, ground := Ground.phase }], guard := none }) rfl (fun K hK => ?_) AllReadyH.nil)
            have fz := i27.frozen q
            go_simp
            obtain ⟨wz15, hwz⟩ : ∃ v, v = wzd.setCell ⟨G27, q, none⟩ (.int .i64 (min 256 (lq + 1))) := ⟨_, rfl⟩
            rw [← hwz]
            have hbz15 : Below Wa.heap.size Wa wz15 := by rw [hwz]; exact (hbzd).setCell (by exact HG27.out) _
            replace i27 : BlkI wz15 G27 23 (wider lim q) := by rw [← HWV.out, HWE.out, hwz]; exact BlkI.set (l := lim) i27 q (min 256 (lq + 1))
            replace i20 := i20.other (B' := G27) (j := q) (by have := HNE.out; omega) (.int .i64 (min 256 (lq + 1)))
            rw [← hwz] at i20
            clear hwz
            refine hK.out _ _ (cellb Q0.out hbz15) (fun hHeld2 => ?_)
            clear hK K hHeld1
            try simp only [Act.put, List.setIfInBounds_toArray, List.set_cons_zero, List.set_cons_succ]
            refine wpAnyH_done (by kernel_rfl) ?_ _
            clear hHeld2
            clear hA
            have hA := hbz15
            obtain ⟨wd, hwd⟩ : ∃ v, v = wz15 := ⟨_, rfl⟩
            rw [← hwd] at hA i27 i20 ⊢
            clear hwd
            clear f0 f1 f1' f2 f3 f4
            obtain ⟨N1, hN1⟩ : ∃ x : Int, x = ((n + 1 : Nat) : Int) := ⟨_, rfl⟩
            rw [← hN1] at TD2
            have g0 : IntKind.i64.wrap ((n : Int) + 1) = N1 := (IntWalk.i64_in _ (by omega)).trans (by omega)
            clear hN1
            have hwl : (wider lim q).length = 7 := by rw [wider_len]; exact HL7.out
            have hld2 := load7 hwl i27
            have HWL := Lib.hid hwl
            clear hwl
            generalize wider lim q = WLim at TD2 i27 hld2 HWL
            go_wp2_with (refine wpList_load rfl _ _ rfl hld2 ?_)
            refine (TD2.out wd (HW.out.carry hA)).mono ?_
            rintro e Z3 ⟨rfl, hb⟩
            clear hld2 i27 g0
            replace i20 := i20.carry hb
            replace hA := bthen hA hb
            clear hb
            go_upto_region 31 with (refine wpList_storeA rfl _ _ _ rfl Z3.heap.size D2 (List.replicate 3 0) rfl rfl (BlkI.new Z3 26 (List.replicate 3 0)) (by rw [HD2l.out]; rfl) (by rw [HD2l.out]; exact Tryz.infoA3) ?_)
            obtain ⟨Z4, hZ4⟩ : ∃ v, v = World.setRow (World.alloc Z3 (Obj.cells #[.int .i64 0, .int .i64 0, .int .i64 0] 26)) Z3.heap.size (ia (D2)) := ⟨_, rfl⟩
            have kZ4 : Below Z3.heap.size Z3 Z4 := by rw [hZ4]; exact zrow_below _ _ _ _
            have iZ4 : BlkI Z4 Z3.heap.size 26 (D2) := by rw [hZ4]; exact zrow_blk Z3 _ (List.replicate 3 0) _
            rw [← hZ4]
            clear hZ4
            replace i20 := i20.carry kZ4
            replace hA := bthen hA kZ4
            have i28 := iZ4
            obtain ⟨G28, hG⟩ : ∃ G, G = Z3.heap.size := ⟨_, rfl⟩
            rw [← hG] at i28 ⊢
            clear kZ4 iZ4 hG
            have hld := load3 HD2l.out i28
            go_wp2_with (refine wpList_load rfl _ _ rfl hld ?_)
            refine (TM.out Z4 (HW.out.carry hA)).mono ?_
            rintro e Z5 ⟨rfl, hb⟩
            clear hld
            replace i20 := i20.carry hb
            replace i28 := i28.carry hb
            replace hA := bthen hA hb
            clear hb
            clear i28
            go_upto_region 34 with (refine wpList_storeA rfl _ _ _ rfl Z5.heap.size [m0, m1] (List.replicate 2 0) rfl rfl (BlkI.new Z5 78 (List.replicate 2 0)) rfl Tryz.infoRoot ?_)
            obtain ⟨Z6, hZ6⟩ : ∃ v, v = World.setRow (World.alloc Z5 (Obj.cells #[.int .i64 0, .int .i64 0] 78)) Z5.heap.size (ia ([m0, m1])) := ⟨_, rfl⟩
            have kZ6 : Below Z5.heap.size Z5 Z6 := by rw [hZ6]; exact zrow_below _ _ _ _
            have iZ6 : BlkI Z6 Z5.heap.size 78 ([m0, m1]) := by rw [hZ6]; exact zrow_blk Z5 _ (List.replicate 2 0) _
            rw [← hZ6]
            clear hZ6
            replace i20 := i20.carry kZ6
            replace hA := bthen hA kZ6
            have i30 := iZ6
            obtain ⟨G30, hG⟩ : ∃ G, G = Z5.heap.size := ⟨_, rfl⟩
            rw [← hG] at i30 ⊢
            clear kZ6 iZ6 hG
            have k0 : Z6.cell? ⟨G20, 0, none⟩ = some (.int .i64 b0) := BlkI.cell i20 (j := 0) (by simp)
            have k1 : Z6.cell? ⟨G20, 1, none⟩ = some (.int .i64 b1) := BlkI.cell i20 (j := 1) (by simp)
            have k2 : Z6.cell? ⟨G30, 0, none⟩ = some (.int .i64 m0) := BlkI.cell i30 (j := 0) (by simp)
            have k3 : Z6.cell? ⟨G30, 1, none⟩ = some (.int .i64 m1) := BlkI.cell i30 (j := 1) (by simp)
            have hsg2 := HSG.out
            have hsg3 : decide (0 ≤ sg2) = true := decide_eq_true hsg2
            go_wp2_with fail
            refine (TS2.out Z6).mono ?_
            rintro e Z7 ⟨rfl, hb⟩
            clear k0 k1 k2 k3 i20 i30
            replace hA := bthen hA hb
            clear hb
            go_wp2_with fail
            refine (TAW.out Z7 (HW.out.carry hA) (HP.out.carry hA)).mono ?_
            rintro e Z8 ⟨rfl, hb⟩
            go_wp2_with fail
            go_ret
            exact ⟨rfl, bthen HB.out (bthen hA hb)⟩
  · have hz : (limE lim != 0) = true := by rw [bne_iff_ne]; exact hL
    generalize limE lim = el at TL hz
    clear hL
    go_enter Tryz.func5, Tryz.ntmps5
    go_upto_region 1 with fail
    obtain ⟨W1, hW1⟩ : ∃ v, v = World.alloc w (Obj.cells (ia lim) 23) := ⟨_, rfl⟩
    have kW1 : Below w.heap.size w W1 := by rw [hW1]; exact below_new _ _
    have iW1 : BlkI W1 (w.heap.size) 23 lim := by rw [hW1]; exact BlkI.new _ _ _
    have sW1 : W1.heap.size = w.heap.size + 1 := by rw [hW1]; simp
    rw [← hW1]
    clear hW1
    obtain ⟨Wa, hWa⟩ : ∃ v, v = World.alloc W1 (Obj.cells #[.int .u8 a, .int .u8 b, .int .u8 c] 76) := ⟨_, rfl⟩
    have kWa : Below W1.heap.size W1 Wa := by rw [hWa]; exact below_new _ _
    have iWa : Blk Wa (w.heap.size + 1) 76 [.int .u8 a, .int .u8 b, .int .u8 c] := by rw [hWa, ← sW1]; exact Blk.new _ _ _
    have sWa : Wa.heap.size = w.heap.size + 1 + 1 := by rw [hWa]; simp [sW1]
    rw [← hWa]
    clear hWa
    have i4 : BlkI Wa w.heap.size 23 lim := iW1.carry kWa
    have q0 := iWa.cell (j := 0) (v := .int .u8 a) rfl
    have q1 := iWa.cell (j := 1) (v := .int .u8 b) rfl
    have q2 := iWa.cell (j := 2) (v := .int .u8 c) rfl
    have hB := bthen kW1 kWa
    obtain ⟨G5, hG5⟩ : ∃ G, G = w.heap.size + 1 := ⟨_, rfl⟩
    rw [← hG5] at q0 q1 q2 ⊢
    obtain ⟨G4, hG4⟩ : ∃ G, G = w.heap.size := ⟨_, rfl⟩
    rw [← hG4] at i4 ⊢
    have HW := Lib.hid (HWw.out.carry hB)
    have HP := Lib.hid (HPw.out.carry hB)
    have HB := Lib.hid hB
    clear iW1 kW1 sW1 iWa kWa sWa hG4 hG5 hB
    have hld2 := load7 HL7.out i4
    go_wp2_with (refine wpList_load rfl _ _ rfl hld2 ?_)
    refine (TL.out Wa).mono ?_
    rintro e Wb ⟨rfl, hA⟩
    clear hld2
    go_wp2_with fail
    refine (TAW.out Wb (HW.out.carry hA) (HP.out.carry hA)).mono ?_
    rintro e Wc ⟨rfl, hb⟩
    go_wp2_with fail
    go_ret
    exact ⟨rfl, bthen HB.out (bthen hA hb)⟩
end

end Go.Proofs.YtlohcnecehlljaaGreatDoor

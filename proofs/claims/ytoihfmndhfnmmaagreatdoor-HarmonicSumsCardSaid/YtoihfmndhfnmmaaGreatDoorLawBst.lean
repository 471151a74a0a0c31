/- Chapter 4, plain facts: the order of root numbers; what the design keeps. -/
import Derived.Test.YtoihfmndhfnmmaaGreatDoorHdA
import Derived.Test.YtoihfmndhfnmmaaGreatDoorHpO
namespace Go.Proofs.YtoihfmndhfnmmaaGreatDoor
section
set_option linter.unusedSimpArgs false
set_option linter.unusedVariables false
open Go.RowKit

theorem sq3_nat : ∀ n a b : Nat, a ≤ n → a * a = 3 * (b * b) → a = 0
  | 0, a, b, h, _ => by omega
  | n + 1, a, b, h, e => by
    have h3 : a % 3 = 0 := by
      have hm : (a * a) % 3 = 0 := by rw [e]; exact Nat.mul_mod_right _ _
      rw [Nat.mul_mod] at hm
      have : a % 3 = 0 ∨ a % 3 = 1 ∨ a % 3 = 2 := by omega
      rcases this with h | h | h <;> rw [h] at hm <;> simp_all
    obtain ⟨c, rfl⟩ : ∃ c, a = 3 * c := ⟨a / 3, by omega⟩
    have e2 : b * b = 3 * (c * c) := by
      have : 3 * c * (3 * c) = 3 * (3 * (c * c)) := by grind
      omega
    by_cases hc : c = 0
    · omega
    · have hlt : b < 3 * c := by
        rcases Nat.lt_or_ge b (3 * c) with hb | hb
        · exact hb
        · exfalso
          have h1 := Nat.mul_le_mul hb hb
          have h2 : 3 * c * (3 * c) = 9 * (c * c) := by grind
          have h3 : 0 < c * c := Nat.mul_pos (by omega) (by omega)
          omega
      have hb0 := sq3_nat n b c (by omega) e2
      subst hb0
      have h3 : 0 < c * c := Nat.mul_pos (by omega) (by omega)
      omega
/-- the square root of 3 is not a ratio. -/
theorem sq3_int {a b : Int} (h : a * a = 3 * (b * b)) : a = 0 ∧ b = 0 := by
  have e : a.natAbs * a.natAbs = 3 * (b.natAbs * b.natAbs) := by
    have h1 : ((a.natAbs * a.natAbs : Nat) : Int) = a * a := Int.natAbs_mul_self
    have h2 : ((b.natAbs * b.natAbs : Nat) : Int) = b * b := Int.natAbs_mul_self
    omega
  have ha := sq3_nat _ _ _ (Nat.le_refl _) e
  rw [ha] at e
  have hb : b.natAbs = 0 := by
    rcases Nat.eq_zero_or_pos b.natAbs with h | h
    · exact h
    · have := Nat.mul_pos h h; omega
  omega
/-- a root number is above 0. -/
def PosR (a b : Int) : Prop := (0 ≤ a ∧ 0 ≤ b ∧ (a ≠ 0 ∨ b ≠ 0)) ∨ (0 < a ∧ b < 0 ∧ 3 * (b * b) < a * a) ∨ (0 < b ∧ a < 0 ∧ a * a < 3 * (b * b))
theorem sq_pos' {a : Int} (h : a ≠ 0) : 0 < a * a := by
  rcases Int.lt_or_gt_of_ne h with h | h
  · exact Int.mul_pos_of_neg_of_neg h h
  · exact Int.mul_pos h h
theorem sgn_pos (a b : Int) : (0 < sgnR a b) ↔ PosR a b := by
  have e3 : 3 * b * b = 3 * (b * b) := by grind
  unfold sgnR PosR
  rw [e3]
  constructor
  · intro h
    split at h
    · omega
    · rename_i h0
      split at h
      · rename_i h1
        rcases h1 with ⟨x, y⟩ | ⟨x, y⟩ | ⟨x, y⟩
        · left; exact ⟨x, y, by omega⟩
        · by_cases hb : 0 ≤ b
          · left; exact ⟨by omega, hb, by omega⟩
          · right; left; exact ⟨x, by omega, y⟩
        · by_cases ha : 0 ≤ a
          · left; exact ⟨ha, by omega, by omega⟩
          · right; right; exact ⟨x, by omega, y⟩
      · omega
  · intro h
    rw [if_neg (by omega), if_pos]
    · decide
    · rcases h with ⟨x, y, _⟩ | ⟨x, y, z⟩ | ⟨x, y, z⟩
      · exact .inl ⟨x, y⟩
      · exact .inr (.inl ⟨x, z⟩)
      · exact .inr (.inr ⟨x, z⟩)
theorem sgn_neg (a b : Int) : sgnR (-a) (-b) = -sgnR a b := by
  have e3 : 3 * b * b = 3 * (b * b) := by grind
  have e4 : 3 * -b * -b = 3 * (b * b) := by grind
  have e5 : -a * -a = a * a := by grind
  by_cases h0 : a = 0 ∧ b = 0
  · obtain ⟨rfl, rfl⟩ := h0; rfl
  · have hne : a * a ≠ 3 * (b * b) := fun h => h0 (sq3_int h)
    unfold sgnR
    rw [e3, e4, e5, if_neg h0, if_neg (by omega)]
    by_cases h1 : (0 ≤ a ∧ 0 ≤ b) ∨ (0 < a ∧ 3 * (b * b) < a * a) ∨ (0 < b ∧ a * a < 3 * (b * b))
    · rw [if_pos h1, if_neg (by omega)]
    · rw [if_neg h1, if_pos (by omega)]; rfl
/-- the key: both of different signs. -/
theorem mixed {u v C d : Int} (hu : 0 < u) (hv : 0 < v) (hC : 0 ≤ C) (hd : 0 ≤ d) (h1 : 3 * ((u + d) * (u + d)) < (v + C) * (v + C)) (h2 : C * C < 3 * (d * d)) : 3 * (u * u) < v * v := by
  rcases (by omega : 3 * (u * u) < v * v ∨ v * v ≤ 3 * (u * u)) with h | h
  · exact h
  · exfalso
    have h3 : v * C ≤ 3 * (u * d) := by
      rcases (by omega : 3 * (u * d) < v * C ∨ v * C ≤ 3 * (u * d)) with k | k
      · exfalso
        have p0 : 0 ≤ u * d := Int.mul_nonneg (by omega) hd
        have p1 : 3 * (u * d) * (3 * (u * d)) < v * C * (v * C) := by
          have a1 : 3 * (u * d) * (3 * (u * d)) ≤ 3 * (u * d) * (v * C) := Int.mul_le_mul_of_nonneg_left (by omega) (by omega)
          have a2 : 3 * (u * d) * (v * C) < v * C * (v * C) := Int.mul_lt_mul_of_pos_right k (by omega)
          omega
        have p2 : v * v * (C * C) ≤ 3 * (u * u) * (3 * (d * d)) := by
          have a1 : v * v * (C * C) ≤ 3 * (u * u) * (C * C) := Int.mul_le_mul_of_nonneg_right h (Int.mul_nonneg hC hC)
          have a2 : 3 * (u * u) * (C * C) ≤ 3 * (u * u) * (3 * (d * d)) := Int.mul_le_mul_of_nonneg_left (by omega) (by have := Int.mul_pos hu hu; omega)
          omega
        have e1 : v * C * (v * C) = v * v * (C * C) := by grind
        have e2 : 3 * (u * d) * (3 * (u * d)) = 3 * (u * u) * (3 * (d * d)) := by grind
        omega
      · exact k
    have e1 : (u + d) * (u + d) = u * u + 2 * (u * d) + d * d := by grind
    have e2 : (v + C) * (v + C) = v * v + 2 * (v * C) + C * C := by grind
    rw [e1, e2] at h1
    omega
theorem mul_le_sq {x y : Int} (hx : 0 ≤ x) (h : x ≤ y) : x * x ≤ y * y := Int.mul_le_mul h h hx (by omega)
theorem add2 {a B c D : Int} (ha : 0 < a) (hB : 0 ≤ B) (hc : 0 < c) (hD : 0 ≤ D) (h1 : 3 * (B * B) < a * a) (h2 : 3 * (D * D) < c * c) : 3 * ((B + D) * (B + D)) < (a + c) * (a + c) := by
  have h3 : 3 * (B * D) ≤ a * c := by
    rcases (by omega : a * c < 3 * (B * D) ∨ 3 * (B * D) ≤ a * c) with k | k
    · exfalso
      have p0 : 0 ≤ a * c := Int.mul_nonneg (by omega) (by omega)
      have p1 : a * c * (a * c) < 3 * (B * D) * (3 * (B * D)) := by
        have a1 : a * c * (a * c) ≤ a * c * (3 * (B * D)) := Int.mul_le_mul_of_nonneg_left (by omega) p0
        have a2 : a * c * (3 * (B * D)) < 3 * (B * D) * (3 * (B * D)) := Int.mul_lt_mul_of_pos_right k (by omega)
        omega
      have p2 : 3 * (B * B) * (3 * (D * D)) ≤ a * a * (c * c) := by
        have a1 : 3 * (B * B) * (3 * (D * D)) ≤ a * a * (3 * (D * D)) := Int.mul_le_mul_of_nonneg_right (by omega) (by have := Int.mul_nonneg hD hD; omega)
        have a2 : a * a * (3 * (D * D)) ≤ a * a * (c * c) := Int.mul_le_mul_of_nonneg_left (by omega) (Int.mul_nonneg (by omega) (by omega))
        omega
      have e1 : a * c * (a * c) = a * a * (c * c) := by grind
      have e2 : 3 * (B * D) * (3 * (B * D)) = 3 * (B * B) * (3 * (D * D)) := by grind
      omega
    · exact k
  have e1 : (B + D) * (B + D) = B * B + 2 * (B * D) + D * D := by grind
  have e2 : (a + c) * (a + c) = a * a + 2 * (a * c) + c * c := by grind
  rw [e1, e2]
  omega
theorem negsq (a : Int) : -a * -a = a * a := by grind
/-- one of each kind. -/
theorem pos_mix {a b c d : Int} (ha : 0 < a) (hb : b < 0) (h1 : 3 * (b * b) < a * a) (hd : 0 < d) (hc : c < 0) (h2 : c * c < 3 * (d * d)) : PosR (a + c) (b + d) := by
  obtain ⟨B, rfl⟩ : ∃ B, b = -B := ⟨-b, by omega⟩
  obtain ⟨C, rfl⟩ : ∃ C, c = -C := ⟨-c, by omega⟩
  rw [negsq] at h1 h2
  rcases (by omega : (0 < a - C ∧ d - B < 0) ∨ (a - C < 0 ∧ 0 < d - B) ∨ (a - C ≤ 0 ∧ d - B ≤ 0) ∨ (0 ≤ a - C ∧ 0 ≤ d - B ∧ (a - C ≠ 0 ∨ d - B ≠ 0))) with ⟨p, q⟩ | ⟨p, q⟩ | ⟨p, q⟩ | ⟨p, q, r⟩
  · right; left
    refine ⟨by omega, by omega, ?_⟩
    have := mixed (u := B - d) (v := a - C) (C := C) (d := d) (by omega) p (by omega) (by omega) (by rw [show B - d + d = B by omega, show a - C + C = a by omega]; exact h1) h2
    have e1 : (-B + d) * (-B + d) = (B - d) * (B - d) := by grind
    have e2 : (a + -C) * (a + -C) = (a - C) * (a - C) := by grind
    rw [e1, e2]
    exact this
  · right; right
    refine ⟨by omega, by omega, ?_⟩
    have := mixed (u := C - a) (v := 3 * (d - B)) (C := 3 * B) (d := a) (by omega) (by omega) (by omega) (by omega) (by
      rw [show C - a + a = C by omega, show 3 * (d - B) + 3 * B = 3 * d by omega]
      have : 3 * d * (3 * d) = 9 * (d * d) := by grind
      omega) (by
      have : 3 * B * (3 * B) = 9 * (B * B) := by grind
      omega)
    have e1 : (-B + d) * (-B + d) = (d - B) * (d - B) := by grind
    have e2 : (a + -C) * (a + -C) = (C - a) * (C - a) := by grind
    have e3 : 3 * (d - B) * (3 * (d - B)) = 9 * ((d - B) * (d - B)) := by grind
    rw [e1, e2]
    omega
  · exfalso
    have s1 := mul_le_sq (x := a) (y := C) (by omega) (by omega)
    have s2 := mul_le_sq (x := d) (y := B) (by omega) (by omega)
    omega
  · left
    exact ⟨by omega, by omega, by omega⟩
/-- sums of what is above 0 are above 0. -/
theorem pos_add {a b c d : Int} (h1 : PosR a b) (h2 : PosR c d) : PosR (a + c) (b + d) := by
  rcases h1 with ⟨x1, y1, z1⟩ | ⟨x1, y1, z1⟩ | ⟨x1, y1, z1⟩ <;> rcases h2 with ⟨x2, y2, z2⟩ | ⟨x2, y2, z2⟩ | ⟨x2, y2, z2⟩
  · left; exact ⟨by omega, by omega, by omega⟩
  · by_cases h : 0 ≤ b + d
    · left; exact ⟨by omega, h, by omega⟩
    · right; left
      have s1 := mul_le_sq (x := -(b + d)) (y := -d) (by omega) (by omega)
      have s2 := mul_le_sq (x := c) (y := a + c) (by omega) (by omega)
      rw [negsq, negsq] at s1
      exact ⟨by omega, by omega, by omega⟩
  · by_cases h : 0 ≤ a + c
    · left; exact ⟨h, by omega, by omega⟩
    · right; right
      have s1 := mul_le_sq (x := -(a + c)) (y := -c) (by omega) (by omega)
      have s2 := mul_le_sq (x := d) (y := b + d) (by omega) (by omega)
      rw [negsq, negsq] at s1
      exact ⟨by omega, by omega, by omega⟩
  · by_cases h : 0 ≤ b + d
    · left; exact ⟨by omega, h, by omega⟩
    · right; left
      have s1 := mul_le_sq (x := -(b + d)) (y := -b) (by omega) (by omega)
      have s2 := mul_le_sq (x := a) (y := a + c) (by omega) (by omega)
      rw [negsq, negsq] at s1
      exact ⟨by omega, by omega, by omega⟩
  · right; left
    have := add2 (a := a) (B := -b) (c := c) (D := -d) x1 (by omega) x2 (by omega) (by rw [negsq]; exact z1) (by rw [negsq]; exact z2)
    rw [show -b + -d = -(b + d) by omega, negsq] at this
    exact ⟨by omega, by omega, this⟩
  · exact pos_mix x1 y1 z1 x2 y2 z2
  · by_cases h : 0 ≤ a + c
    · left; exact ⟨h, by omega, by omega⟩
    · right; right
      have s1 := mul_le_sq (x := -(a + c)) (y := -a) (by omega) (by omega)
      have s2 := mul_le_sq (x := b) (y := b + d) (by omega) (by omega)
      rw [negsq, negsq] at s1
      exact ⟨by omega, by omega, by omega⟩
  · have := pos_mix x2 y2 z2 x1 y1 z1
    rw [Int.add_comm a c, Int.add_comm b d]
    exact this
  · right; right
    have e1 : 3 * b * (3 * b) = 9 * (b * b) := by grind
    have e2 : 3 * d * (3 * d) = 9 * (d * d) := by grind
    have := add2 (a := 3 * b) (B := -a) (c := 3 * d) (D := -c) (by omega) (by omega) (by omega) (by omega) (by rw [negsq]; omega) (by rw [negsq]; omega)
    have e3 : (3 * b + 3 * d) * (3 * b + 3 * d) = 9 * ((b + d) * (b + d)) := by grind
    rw [show -a + -c = -(a + c) by omega, negsq, e3] at this
    exact ⟨by omega, by omega, by omega⟩
/-- one root number is above another one. -/
def gtR (x y : Int × Int) : Prop := PosR (x.1 - y.1) (x.2 - y.2)
theorem posR_dec (a b : Int) : PosR a b ∨ (a = 0 ∧ b = 0) ∨ PosR (-a) (-b) := by
  by_cases h : 0 < sgnR a b
  · exact .inl ((sgn_pos a b).1 h)
  · by_cases h0 : a = 0 ∧ b = 0
    · exact .inr (.inl h0)
    · right; right
      rw [← sgn_pos, sgn_neg]
      have : sgnR a b ≠ 0 := by
        unfold sgnR
        rw [if_neg h0]
        split <;> decide
      omega
theorem posR_anti {a b : Int} (h1 : PosR a b) (h2 : PosR (-a) (-b)) : False := by
  rw [← sgn_pos] at h1 h2
  rw [sgn_neg] at h2
  omega
theorem posR_zero : ¬ PosR 0 0 := by
  rintro (⟨_, _, h⟩ | ⟨h, _⟩ | ⟨h, _⟩) <;> omega
theorem gtR_trans {x y z : Int × Int} (h1 : gtR x y) (h2 : gtR y z) : gtR x z := by
  have := pos_add h1 h2
  unfold gtR
  rw [show x.1 - y.1 + (y.1 - z.1) = x.1 - z.1 by omega, show x.2 - y.2 + (y.2 - z.2) = x.2 - z.2 by omega] at this
  exact this
/-- not above: a total order. -/
theorem leR_trans {x y z : Int × Int} (h1 : ¬ gtR x y) (h2 : ¬ gtR y z) : ¬ gtR x z := by
  intro h
  rcases posR_dec (x.1 - y.1) (x.2 - y.2) with k | ⟨k1, k2⟩ | k
  · exact h1 k
  · have : x = y := Prod.ext (by omega) (by omega)
    subst this
    exact h2 h
  · have k' : gtR y x := by
      unfold gtR
      rw [show y.1 - x.1 = -(x.1 - y.1) by omega, show y.2 - x.2 = -(x.2 - y.2) by omega]
      exact k
    exact h2 (gtR_trans k' h)
theorem gt_le {x y z : Int × Int} (h1 : gtR x y) (h2 : ¬ gtR z y) : gtR x z := by
  rcases posR_dec (z.1 - y.1) (z.2 - y.2) with k | ⟨k1, k2⟩ | k
  · exact absurd k h2
  · have : z = y := Prod.ext (by omega) (by omega)
    subst this
    exact h1
  · have k' : gtR y z := by
      unfold gtR
      rw [show y.1 - z.1 = -(z.1 - y.1) by omega, show y.2 - z.2 = -(z.2 - y.2) by omega]
      exact k
    exact gtR_trans h1 k'
theorem le_gt {x y z : Int × Int} (h1 : ¬ gtR y x) (h2 : gtR y z) : gtR x z := by
  rcases posR_dec (y.1 - x.1) (y.2 - x.2) with k | ⟨k1, k2⟩ | k
  · exact absurd k h1
  · have : y = x := Prod.ext (by omega) (by omega)
    subst this
    exact h2
  · have k' : gtR x y := by
      unfold gtR
      rw [show x.1 - y.1 = -(y.1 - x.1) by omega, show x.2 - y.2 = -(y.2 - x.2) by omega]
      exact k
    exact gtR_trans k' h2
theorem gtR_irr (x : Int × Int) : ¬ gtR x x := by
  unfold gtR
  rw [Int.sub_self, Int.sub_self]
  exact posR_zero
end

section
set_option linter.unusedSimpArgs false
set_option linter.unusedVariables false
open Go.RowKit

/-- a strength is not below 0. -/
theorem st_nonneg {x : Cy} (h : Bd 100000 x) : ¬ gtR (0, 0) (stC x) := by
  obtain ⟨x0, x1, x2, x3⟩ := x
  rw [st_exact h]
  unfold gtR
  simp only [Int.zero_sub]
  have n1 := sq_nn x0 x1
  have n2 := sq_nn x2 x3
  have key : 3 * ((x1 * x2 - x0 * x3) * (x1 * x2 - x0 * x3)) ≤ (x0 * x0 - x0 * x1 + x1 * x1 + (x2 * x2 - x2 * x3 + x3 * x3)) * (x0 * x0 - x0 * x1 + x1 * x1 + (x2 * x2 - x2 * x3 + x3 * x3)) := by
    have e1 : 4 * ((x0 * x0 - x0 * x1 + x1 * x1) * (x2 * x2 - x2 * x3 + x3 * x3)) = (2 * (x0 * (x2 - x3) + x1 * x3) - (x1 * x2 - x0 * x3)) * (2 * (x0 * (x2 - x3) + x1 * x3) - (x1 * x2 - x0 * x3)) + 3 * ((x1 * x2 - x0 * x3) * (x1 * x2 - x0 * x3)) := by grind
    have s1 : 0 ≤ (2 * (x0 * (x2 - x3) + x1 * x3) - (x1 * x2 - x0 * x3)) * (2 * (x0 * (x2 - x3) + x1 * x3) - (x1 * x2 - x0 * x3)) := by
      generalize 2 * (x0 * (x2 - x3) + x1 * x3) - (x1 * x2 - x0 * x3) = y
      rcases Int.le_total 0 y with h | h
      · exact Int.mul_nonneg h h
      · exact Int.mul_nonneg_of_nonpos_of_nonpos h h
    generalize x1 * x2 - x0 * x3 = v at *
    generalize x0 * x0 - x0 * x1 + x1 * x1 = p at *
    generalize x2 * x2 - x2 * x3 + x3 * x3 = q at *
    have s2 : 0 ≤ (p - q) * (p - q) := by
      rcases Int.le_total 0 (p - q) with h | h
      · exact Int.mul_nonneg h h
      · exact Int.mul_nonneg_of_nonpos_of_nonpos h h
    have e2 : (p + q) * (p + q) = (p - q) * (p - q) + 4 * (p * q) := by grind
    omega
  have hA0 : 0 ≤ x0 * x0 - x0 * x1 + x1 * x1 + (x2 * x2 - x2 * x3 + x3 * x3) := by omega
  generalize x1 * x2 - x0 * x3 = v at *
  generalize x0 * x0 - x0 * x1 + x1 * x1 + (x2 * x2 - x2 * x3 + x3 * x3) = A at *
  rintro (⟨a, b, c⟩ | ⟨a, b, c⟩ | ⟨a, b, c⟩)
  · have hA : A = 0 := by omega
    subst hA
    have hv : v ≠ 0 := by omega
    have := sq_pos' hv
    omega
  · omega
  · rw [negsq, negsq] at c
    omega
theorem str_bd1 {l : List Int} (hl : ∀ x ∈ l, -100 ≤ x ∧ x ≤ 100) (h : Nat) (h1 : 1 ≤ h) (h6 : h ≤ 6) : Bd 100000 (orderC l h) := by
  have hq := order_bq l h hl
  have hc := cS_le (fun k => cO (mod12 (wrap64 (-(h : Int) * k)))) (fun k => cO_le _) 12
  unfold cH at hq
  generalize cS (fun k => cO (mod12 (wrap64 (-(h : Int) * k)))) 12 = c at hq hc
  obtain ⟨q0, q1, q2, q3⟩ := hq
  exact ⟨by omega, by omega, by omega, by omega⟩
/-- the strength of a triple's order 1. -/
def strT (t : Int × Int × Int) : Int × Int := stC (orderC (triQ t) 1)
def TriOk (t : Int × Int × Int) : Prop := (-100 ≤ t.1 ∧ t.1 ≤ 100) ∧ (-100 ≤ t.2.1 ∧ t.2.1 ≤ 100) ∧ (-100 ≤ t.2.2 ∧ t.2.2 ≤ 100)
theorem triQ_bd {t : Int × Int × Int} (h : TriOk t) : ∀ x ∈ triQ t, -100 ≤ x ∧ x ≤ 100 := qOf_bd h.1 h.2.1 h.2.2
theorem strT_bd {t : Int × Int × Int} (h : TriOk t) : (0 ≤ (strT t).1 ∧ (strT t).1 ≤ 960000) ∧ (-320000 ≤ (strT t).2 ∧ (strT t).2 ≤ 320000) := str1_bd _ (triQ_bd h)
theorem strT_nn {t : Int × Int × Int} (h : TriOk t) : ¬ gtR (0, 0) (strT t) := st_nonneg (str_bd1 (triQ_bd h) 1 (by omega) (by omega))
theorem triN_ok (m n : Nat) (hm : m ≤ 100) (h : n < (m + 1) * (m + 1) * (m + 1)) : TriOk (triN m n) := by
  obtain ⟨t1, t2, t3⟩ := triN_bd m n h
  exact ⟨by omega, by omega, by omega⟩
def exc0 (t : Int × Int × Int) (lim : List Int) : Prop := (excL (triQ t) lim).length = 0
theorem desB_iff {lim : List Int} {g : Int × Int} {t : Int × Int × Int} (ht : TriOk t) (hg : (0 ≤ g.1 ∧ g.1 ≤ 960000) ∧ (-320000 ≤ g.2 ∧ g.2 ≤ 320000)) : desB lim g t = true ↔ gtR (strT t) g ∧ exc0 t lim := by
  have hs := strT_bd ht
  unfold desB desG exc0
  rw [show stC (orderC (triQ t) 1) = strT t from rfl]
  generalize strT t = s at hs ⊢
  obtain ⟨s0, s1⟩ := s
  obtain ⟨g0, g1⟩ := g
  rw [scR_one hs hg]
  unfold posB gtR
  rw [Bool.and_eq_true, decide_eq_true_iff, sgn_pos, beq_iff_eq]
/-- what the search keeps. -/
theorem desS_inv (m : Nat) (lim : List Int) (hm : m ≤ 100) : ∀ k, k ≤ (m + 1) * (m + 1) * (m + 1) →
    (∀ j, j < k → exc0 (triN m j) lim → ¬ gtR (strT (triN m j)) (desS m lim k).2) ∧
    (desS m lim k = ((0, 0, 0), (0, 0)) ∨ ∃ j, j < k ∧ desS m lim k = (triN m j, strT (triN m j)) ∧ exc0 (triN m j) lim ∧ gtR (strT (triN m j)) (0, 0))
  | 0, _ => ⟨fun j hj => by omega, .inl rfl⟩
  | k + 1, h => by
    obtain ⟨i1, i2⟩ := desS_inv m lim hm k (by omega)
    have hbd := desS_bd m lim hm k (by omega)
    have hok := triN_ok m k hm (by omega)
    rw [desS_succ]
    cases hb : desB lim (desS m lim k).2 (triN m k)
    · rw [cond_false]
      refine ⟨fun j hj he => ?_, ?_⟩
      · by_cases hjk : j = k
        · subst hjk
          intro hgt
          rw [(desB_iff hok hbd).2 ⟨hgt, he⟩] at hb
          exact absurd hb (by decide)
        · exact i1 j (by omega) he
      · rcases i2 with i2 | ⟨j, hj, i2⟩
        · exact .inl i2
        · exact .inr ⟨j, by omega, i2⟩
    · rw [cond_true]
      obtain ⟨hgt, he⟩ := (desB_iff hok hbd).1 hb
      refine ⟨fun j hj hej => ?_, .inr ⟨k, by omega, rfl, he, ?_⟩⟩
      · by_cases hjk : j = k
        · subst hjk
          exact gtR_irr _
        · have := i1 j (by omega) hej
          intro hc
          exact this (gtR_trans hc hgt)
      · rcases i2 with i2 | ⟨j, hj, i2, _, i3⟩
        · rw [i2] at hgt; exact hgt
        · rw [i2] at hgt; exact gtR_trans hgt i3
theorem desS_end (m : Nat) (lim : List Int) (hm : m ≤ 100) (a b c : Nat) (ha : a ≤ m) (hb : b ≤ m) (hc : c ≤ m) (he : exc0 ((a : Int), (b : Int), (c : Int)) lim) : ¬ gtR (strT ((a : Int), (b : Int), (c : Int))) (desS m lim ((m + 1) * (m + 1) * (m + 1))).2 := by
  have hk : (a * (m + 1) + b) * (m + 1) + c < (m + 1) * (m + 1) * (m + 1) := by
    have e1 : a * (m + 1) ≤ m * (m + 1) := Nat.mul_le_mul_right _ ha
    have e2 : (m + 1) * (m + 1) = m * (m + 1) + (m + 1) := Nat.succ_mul _ _
    have e3 : (a * (m + 1) + b + 1) * (m + 1) ≤ (m + 1) * (m + 1) * (m + 1) := Nat.mul_le_mul_right _ (by omega)
    have e4 : (a * (m + 1) + b + 1) * (m + 1) = (a * (m + 1) + b) * (m + 1) + (m + 1) := Nat.succ_mul _ _
    omega
  have := (desS_inv m lim hm _ (Nat.le_refl _)).1 _ hk
  rw [triN_at m a b c hb hc] at this
  exact this he
theorem tri0_iff (t : Int × Int × Int) : tri0 t = true ↔ t = (0, 0, 0) := by
  obtain ⟨a, b, c⟩ := t
  simp [tri0, Bool.and_assoc]
theorem strT_zero : strT (0, 0, 0) = (0, 0) := by kernel_rfl
/-- the design: none, or the one that is kept. -/
theorem des_cases (m : Nat) (lim : List Int) (hm : m ≤ 12) (hl : limE lim = 0) :
    (desR m lim = ((0, 0, 0), 18) ∧ ∀ a b c : Nat, a ≤ m → b ≤ m → c ≤ m → exc0 ((a : Int), (b : Int), (c : Int)) lim → strT ((a : Int), (b : Int), (c : Int)) = (0, 0)) ∨
    (∃ x y z : Nat, (x ≤ m ∧ y ≤ m ∧ z ≤ m) ∧ desR m lim = (((x : Int), (y : Int), (z : Int)), 0) ∧ exc0 ((x : Int), (y : Int), (z : Int)) lim ∧ gtR (strT ((x : Int), (y : Int), (z : Int))) (0, 0) ∧
      ∀ a b c : Nat, a ≤ m → b ≤ m → c ≤ m → exc0 ((a : Int), (b : Int), (c : Int)) lim → ¬ gtR (strT ((a : Int), (b : Int), (c : Int))) (strT ((x : Int), (y : Int), (z : Int)))) := by
  have hE : desE m lim = 0 := by
    have : withinE (m : Int) 0 12 = 0 := by unfold withinE; rw [if_neg (by omega)]
    rw [desE, this, hl]; rfl
  obtain ⟨_, hi⟩ := desS_inv m lim (by omega) _ (Nat.le_refl _)
  have he := fun a b c ha hb hc he => desS_end m lim (by omega) a b c ha hb hc he
  rw [desR, if_neg (by omega), Int.toNat_natCast]
  rcases hi with hi | ⟨j, hj, hi, hx, hg⟩
  · left
    rw [hi] at he ⊢
    refine ⟨rfl, fun a b c ha hb hc hx => ?_⟩
    have h1 := he a b c ha hb hc hx
    have h2 := strT_nn (t := ((a : Int), (b : Int), (c : Int))) ⟨by simp only; omega, by simp only; omega, by simp only; omega⟩
    generalize strT ((a : Int), (b : Int), (c : Int)) = s at h1 h2 ⊢
    obtain ⟨s0, s1⟩ := s
    unfold gtR at h1 h2
    simp only [Int.sub_zero, Int.zero_sub] at h1 h2
    rcases posR_dec s0 s1 with k | ⟨k1, k2⟩ | k
    · exact absurd k h1
    · rw [k1, k2]
    · exact absurd k h2
  · right
    obtain ⟨t1, t2, t3⟩ := triN_bd m j hj
    rw [hi] at he ⊢
    generalize triN m j = t at *
    obtain ⟨x, y, z⟩ := t
    simp only at t1 t2 t3
    obtain ⟨x, rfl⟩ : ∃ n : Nat, x = n := ⟨x.toNat, by omega⟩
    obtain ⟨y, rfl⟩ : ∃ n : Nat, y = n := ⟨y.toNat, by omega⟩
    obtain ⟨z, rfl⟩ : ∃ n : Nat, z = n := ⟨z.toNat, by omega⟩
    have hne : tri0 ((x : Int), (y : Int), (z : Int)) = false := by
      cases ht : tri0 ((x : Int), (y : Int), (z : Int))
      · rfl
      · rw [(tri0_iff _).1 ht, strT_zero] at hg
        exact absurd hg (gtR_irr _)
    refine ⟨x, y, z, ⟨by omega, by omega, by omega⟩, ?_, hx, hg, he⟩
    rw [hne]; rfl
end

section
set_option linter.unusedSimpArgs false
set_option linter.unusedVariables false
open Go.RowKit

theorem scR_ex {x y : Int × Int} {m : Int} (hx : (0 ≤ x.1 ∧ x.1 ≤ 1920000) ∧ (-360000 ≤ x.2 ∧ x.2 ≤ 360000)) (hy : (0 ≤ y.1 ∧ y.1 ≤ 960000) ∧ (-320000 ≤ y.2 ∧ y.2 ≤ 320000)) (hm : 0 ≤ m ∧ m ≤ 256) : scR 256 x m y = (256 * x.1 - m * y.1, 256 * x.2 - m * y.2) := by
  obtain ⟨x0, x1⟩ := x
  obtain ⟨y0, y1⟩ := y
  simp only at hx hy
  have p0 := mulb (x := m) (y := y0) (A := 256) (B := 960000) (by omega) (by omega)
  have p1 := mulb (x := m) (y := y1) (A := 256) (B := 320000) (by omega) (by omega)
  rw [scR_eq]
  simp only
  generalize m * y0 = q0 at *
  generalize m * y1 = q1 at *
  rw [wrapIn (x := 256 * x0) (by omega), wrapIn (x := q0) (by omega), wrapIn (x := 256 * x1) (by omega), wrapIn (x := q1) (by omega), wrapIn (x := 256 * x0 - q0) (by omega), wrapIn (x := 256 * x1 - q1) (by omega)]
/-- an order that is in excess by wider limits is so by the others. -/
theorem excB_mono {l : List Int} {lim lim' : List Int} (hl : ∀ x ∈ l, -100 ≤ x ∧ x ≤ 100) (h : Nat) (h2 : 2 ≤ h) (h6 : h ≤ 6) (m m' : Int) (hm : lim[h]?.getD 0 = m) (hm' : lim'[h]?.getD 0 = m') (hr : 0 ≤ m ∧ m ≤ 256) (hr' : 0 ≤ m' ∧ m' ≤ 256) (hd : m' = m ∨ m' = m + 1) (he : excB l lim h = false) : excB l lim' h = false := by
  unfold excB posB at *
  rw [hm] at he
  rw [hm']
  have bh := str_bd l hl h (by omega) (by omega)
  have b1 := str1_bd l hl
  have bn := st_nonneg (str_bd1 hl 1 (by omega) (by omega))
  rw [scR_ex bh b1 hr] at he
  rw [scR_ex bh b1 hr']
  have bn' : ¬ gtR (0, 0) (stC (orderC l 1)) := bn
  generalize stC (orderC l h) = x at *
  generalize stC (orderC l 1) = y at *
  obtain ⟨x0, x1⟩ := x
  obtain ⟨y0, y1⟩ := y
  have h1 := of_decide_eq_false he
  apply decide_eq_false
  rw [sgn_pos] at h1 ⊢
  rcases hd with rfl | rfl
  · exact h1
  · intro hp
    simp only at h1 hp bn'
    have e0 : 256 * x0 - (m + 1) * y0 = 256 * x0 - m * y0 - y0 := by rw [Int.add_mul]; omega
    have e1 : 256 * x1 - (m + 1) * y1 = 256 * x1 - m * y1 - y1 := by rw [Int.add_mul]; omega
    rw [e0, e1] at hp
    generalize 256 * x0 - m * y0 = z0 at *
    generalize 256 * x1 - m * y1 = z1 at *
    unfold gtR at bn'
    simp only [Int.zero_sub] at bn'
    rcases posR_dec y0 y1 with k | ⟨k1, k2⟩ | k
    · have := pos_add hp k
      rw [show z0 - y0 + y0 = z0 by omega, show z1 - y1 + y1 = z1 by omega] at this
      exact h1 this
    · rw [k1, k2, Int.sub_zero, Int.sub_zero] at hp
      exact h1 hp
    · exact bn' k
theorem exc0_iff (t : Int × Int × Int) (lim : List Int) : exc0 t lim ↔ ∀ h : Nat, 2 ≤ h → h ≤ 6 → excB (triQ t) lim h = false := by
  unfold exc0 excL chosenL
  rw [List.length_eq_zero_iff, List.filter_eq_nil_iff]
  constructor
  · intro hh h h2 h6
    have := hh (2 + ((h - 2 : Nat) : Int)) (List.mem_map.2 ⟨h - 2, List.mem_range.2 (by omega), rfl⟩)
    rw [show (2 + ((h - 2 : Nat) : Int)).toNat = h by omega] at this
    simpa using this
  · intro hh x hx
    obtain ⟨k, hk, rfl⟩ := List.mem_map.1 hx
    have hk5 := List.mem_range.1 hk
    have := hh (k + 2) (by omega) (by omega)
    rw [show (2 + (k : Int)).toNat = k + 2 by omega, this]
    simp
theorem exc0_mono {t : Int × Int × Int} {lim lim' : List Int} (ht : TriOk t) (hl : limE lim = 0) (hl' : limE lim' = 0) (hlen : lim.length = 7) (hlen' : lim'.length = 7) (hd : ∀ h : Nat, h < 7 → lim'[h]?.getD 0 = lim[h]?.getD 0 ∨ lim'[h]?.getD 0 = lim[h]?.getD 0 + 1) (he : exc0 t lim) : exc0 t lim' := by
  rw [exc0_iff] at he ⊢
  intro h h2 h6
  have r1 : 0 ≤ lim[h]?.getD 0 ∧ lim[h]?.getD 0 ≤ 256 := by
    rw [List.getElem?_eq_getElem (by omega)]
    exact limE_all hl _ (List.getElem_mem _)
  have r2 : 0 ≤ lim'[h]?.getD 0 ∧ lim'[h]?.getD 0 ≤ 256 := by
    rw [List.getElem?_eq_getElem (by omega)]
    exact limE_all hl' _ (List.getElem_mem _)
  exact excB_mono (triQ_bd ht) h h2 h6 _ _ rfl rfl r1 r2 (hd h (by omega)) (he h h2 h6)
/-- a number, turned: what its parts are. -/
def turV (m : Nat) (x : Int) : Cy := match m with
  | 0 => (x, 0, 0, 0)
  | 1 => (0, 0, 0, -x)
  | 2 => (x, x, 0, 0)
  | 3 => (0, 0, x, 0)
  | 4 => (0, x, 0, 0)
  | 5 => (0, 0, x, x)
  | 6 => (-x, 0, 0, 0)
  | 7 => (0, 0, 0, x)
  | 8 => (-x, -x, 0, 0)
  | 9 => (0, 0, -x, 0)
  | 10 => (0, -x, 0, 0)
  | _ => (0, 0, -x, -x)
theorem turn_val (a : Int) (h : -100 ≤ a ∧ a ≤ 100) (m : Nat) (hm : m < 12) : turnC (a, 0, 0, 0) m = turV m a := by
  have hb : Bd 1048576 (a, 0, 0, 0) := ⟨by simp only; omega, by simp only; omega, by simp only; omega, by simp only; omega⟩
  rw [turn_rot hb m hm, (rotC_exact hb m (by omega)).1]
  obtain rfl | rfl | rfl | rfl | rfl | rfl | rfl | rfl | rfl | rfl | rfl | rfl : m = 0 ∨ m = 1 ∨ m = 2 ∨ m = 3 ∨ m = 4 ∨ m = 5 ∨ m = 6 ∨ m = 7 ∨ m = 8 ∨ m = 9 ∨ m = 10 ∨ m = 11 := by omega
  all_goals (first | rfl | skip)
  all_goals (simp only [rotN, rotL, turV]; first | done | (refine Prod.ext ?_ (Prod.ext ?_ (Prod.ext ?_ ?_)) <;> (try simp only) <;> (try omega)))
theorem add4 {x y : Cy} (hx : Bd 100000 x) (hy : Bd 100000 y) : cyAdd x y = (x.1 + y.1, x.2.1 + y.2.1, x.2.2.1 + y.2.2.1, x.2.2.2 + y.2.2.2) := by
  obtain ⟨h0, h1, h2, h3⟩ := hx
  obtain ⟨g0, g1, g2, g3⟩ := hy
  unfold cyAdd
  rw [wrapIn (by omega), wrapIn (by omega), wrapIn (by omega), wrapIn (by omega)]
theorem term_val {L : List Int} {h : Int} {k m : Nat} {x : Int} (hx : L[k]?.getD 0 = x) (hb : -100 ≤ x ∧ x ≤ 100) (hm : mod12 (wrap64 (-h * k)) = m) (hm2 : m < 12) : termC L h k = turV m x := by
  rw [termC, hx, hm]
  exact turn_val x hb m hm2
theorem turV_bd {x : Int} (h : -100 ≤ x ∧ x ≤ 100) (m : Nat) : Bd 100 (turV m x) := by
  unfold turV
  split <;> exact ⟨by simp only; omega, by simp only; omega, by simp only; omega, by simp only; omega⟩
theorem fold_ex : ∀ (l : List Cy) (s : Cy) (B : Int), Bd B s → (∀ x ∈ l, Bd 100 x) → 0 ≤ B → B + 100 * l.length ≤ 1000000 → l.foldl cyAdd s = (s.1 + (l.map fun x => x.1).sum, s.2.1 + (l.map fun x => x.2.1).sum, s.2.2.1 + (l.map fun x => x.2.2.1).sum, s.2.2.2 + (l.map fun x => x.2.2.2).sum)
  | [], s, B, _, _, _, _ => by simp
  | y :: l, s, B, hs, hl, hB, hlen => by
    have hy := hl y (by simp)
    have e : cyAdd s y = (s.1 + y.1, s.2.1 + y.2.1, s.2.2.1 + y.2.2.1, s.2.2.2 + y.2.2.2) := by
      simp only [List.length_cons] at hlen
      obtain ⟨a0, a1, a2, a3⟩ := hs
      obtain ⟨b0, b1, b2, b3⟩ := hy
      unfold cyAdd
      rw [wrapIn (by omega), wrapIn (by omega), wrapIn (by omega), wrapIn (by omega)]
    rw [List.foldl_cons, e, fold_ex l _ (B + 100) ?_ (fun x hx => hl x (by simp [hx])) (by omega) (by simp only [List.length_cons] at hlen; omega)]
    · simp only [List.map_cons, List.sum_cons]
      refine Prod.ext ?_ (Prod.ext ?_ (Prod.ext ?_ ?_)) <;> simp only <;> omega
    · obtain ⟨a0, a1, a2, a3⟩ := hs
      obtain ⟨b0, b1, b2, b3⟩ := hy
      exact ⟨by simp only; omega, by simp only; omega, by simp only; omega, by simp only; omega⟩
theorem even_2 {a b c : Int} (ha : -100 ≤ a ∧ a ≤ 100) (hb : -100 ≤ b ∧ b ≤ 100) (hc : -100 ≤ c ∧ c ≤ 100) : orderC [a, b, c, c, b, a, -a, -b, -c, -c, -b, -a] 2 = (0, 0, 0, 0) := by
  have hu : upto (termC [a, b, c, c, b, a, -a, -b, -c, -c, -b, -a] 2) 12 = [turV 0 a, turV 10 b, turV 8 c, turV 6 c, turV 4 b, turV 2 a, turV 0 (-a), turV 10 (-b), turV 8 (-c), turV 6 (-c), turV 4 (-b), turV 2 (-a)] := by
    show [termC [a, b, c, c, b, a, -a, -b, -c, -c, -b, -a] 2 0, termC [a, b, c, c, b, a, -a, -b, -c, -c, -b, -a] 2 1, termC [a, b, c, c, b, a, -a, -b, -c, -c, -b, -a] 2 2, termC [a, b, c, c, b, a, -a, -b, -c, -c, -b, -a] 2 3, termC [a, b, c, c, b, a, -a, -b, -c, -c, -b, -a] 2 4, termC [a, b, c, c, b, a, -a, -b, -c, -c, -b, -a] 2 5, termC [a, b, c, c, b, a, -a, -b, -c, -c, -b, -a] 2 6, termC [a, b, c, c, b, a, -a, -b, -c, -c, -b, -a] 2 7, termC [a, b, c, c, b, a, -a, -b, -c, -c, -b, -a] 2 8, termC [a, b, c, c, b, a, -a, -b, -c, -c, -b, -a] 2 9, termC [a, b, c, c, b, a, -a, -b, -c, -c, -b, -a] 2 10, termC [a, b, c, c, b, a, -a, -b, -c, -c, -b, -a] 2 11] = _
    rw [term_val (k := 0) (m := 0) (x := a) rfl ha (by kernel_rfl) (by omega), term_val (k := 1) (m := 10) (x := b) rfl hb (by kernel_rfl) (by omega), term_val (k := 2) (m := 8) (x := c) rfl hc (by kernel_rfl) (by omega), term_val (k := 3) (m := 6) (x := c) rfl hc (by kernel_rfl) (by omega), term_val (k := 4) (m := 4) (x := b) rfl hb (by kernel_rfl) (by omega), term_val (k := 5) (m := 2) (x := a) rfl ha (by kernel_rfl) (by omega), term_val (k := 6) (m := 0) (x := -a) rfl (by omega) (by kernel_rfl) (by omega), term_val (k := 7) (m := 10) (x := -b) rfl (by omega) (by kernel_rfl) (by omega), term_val (k := 8) (m := 8) (x := -c) rfl (by omega) (by kernel_rfl) (by omega), term_val (k := 9) (m := 6) (x := -c) rfl (by omega) (by kernel_rfl) (by omega), term_val (k := 10) (m := 4) (x := -b) rfl (by omega) (by kernel_rfl) (by omega), term_val (k := 11) (m := 2) (x := -a) rfl (by omega) (by kernel_rfl) (by omega)]
  rw [orderC, hu, fold_ex _ _ 0 ⟨by decide, by decide, by decide, by decide⟩ ?_ (by decide) (by simp)]
  · simp only [List.map_cons, List.map_nil, List.sum_cons, List.sum_nil, turV]
    refine Prod.ext ?_ (Prod.ext ?_ (Prod.ext ?_ ?_)) <;> simp only <;> omega
  · intro x hx
    simp only [List.mem_cons, List.not_mem_nil, or_false] at hx
    rcases hx with rfl | rfl | rfl | rfl | rfl | rfl | rfl | rfl | rfl | rfl | rfl | rfl <;> exact turV_bd (by omega) _
theorem even_4 {a b c : Int} (ha : -100 ≤ a ∧ a ≤ 100) (hb : -100 ≤ b ∧ b ≤ 100) (hc : -100 ≤ c ∧ c ≤ 100) : orderC [a, b, c, c, b, a, -a, -b, -c, -c, -b, -a] 4 = (0, 0, 0, 0) := by
  have hu : upto (termC [a, b, c, c, b, a, -a, -b, -c, -c, -b, -a] 4) 12 = [turV 0 a, turV 8 b, turV 4 c, turV 0 c, turV 8 b, turV 4 a, turV 0 (-a), turV 8 (-b), turV 4 (-c), turV 0 (-c), turV 8 (-b), turV 4 (-a)] := by
    show [termC [a, b, c, c, b, a, -a, -b, -c, -c, -b, -a] 4 0, termC [a, b, c, c, b, a, -a, -b, -c, -c, -b, -a] 4 1, termC [a, b, c, c, b, a, -a, -b, -c, -c, -b, -a] 4 2, termC [a, b, c, c, b, a, -a, -b, -c, -c, -b, -a] 4 3, termC [a, b, c, c, b, a, -a, -b, -c, -c, -b, -a] 4 4, termC [a, b, c, c, b, a, -a, -b, -c, -c, -b, -a] 4 5, termC [a, b, c, c, b, a, -a, -b, -c, -c, -b, -a] 4 6, termC [a, b, c, c, b, a, -a, -b, -c, -c, -b, -a] 4 7, termC [a, b, c, c, b, a, -a, -b, -c, -c, -b, -a] 4 8, termC [a, b, c, c, b, a, -a, -b, -c, -c, -b, -a] 4 9, termC [a, b, c, c, b, a, -a, -b, -c, -c, -b, -a] 4 10, termC [a, b, c, c, b, a, -a, -b, -c, -c, -b, -a] 4 11] = _
    rw [term_val (k := 0) (m := 0) (x := a) rfl ha (by kernel_rfl) (by omega), term_val (k := 1) (m := 8) (x := b) rfl hb (by kernel_rfl) (by omega), term_val (k := 2) (m := 4) (x := c) rfl hc (by kernel_rfl) (by omega), term_val (k := 3) (m := 0) (x := c) rfl hc (by kernel_rfl) (by omega), term_val (k := 4) (m := 8) (x := b) rfl hb (by kernel_rfl) (by omega), term_val (k := 5) (m := 4) (x := a) rfl ha (by kernel_rfl) (by omega), term_val (k := 6) (m := 0) (x := -a) rfl (by omega) (by kernel_rfl) (by omega), term_val (k := 7) (m := 8) (x := -b) rfl (by omega) (by kernel_rfl) (by omega), term_val (k := 8) (m := 4) (x := -c) rfl (by omega) (by kernel_rfl) (by omega), term_val (k := 9) (m := 0) (x := -c) rfl (by omega) (by kernel_rfl) (by omega), term_val (k := 10) (m := 8) (x := -b) rfl (by omega) (by kernel_rfl) (by omega), term_val (k := 11) (m := 4) (x := -a) rfl (by omega) (by kernel_rfl) (by omega)]
  rw [orderC, hu, fold_ex _ _ 0 ⟨by decide, by decide, by decide, by decide⟩ ?_ (by decide) (by simp)]
  · simp only [List.map_cons, List.map_nil, List.sum_cons, List.sum_nil, turV]
    refine Prod.ext ?_ (Prod.ext ?_ (Prod.ext ?_ ?_)) <;> simp only <;> omega
  · intro x hx
    simp only [List.mem_cons, List.not_mem_nil, or_false] at hx
    rcases hx with rfl | rfl | rfl | rfl | rfl | rfl | rfl | rfl | rfl | rfl | rfl | rfl <;> exact turV_bd (by omega) _
theorem even_6 {a b c : Int} (ha : -100 ≤ a ∧ a ≤ 100) (hb : -100 ≤ b ∧ b ≤ 100) (hc : -100 ≤ c ∧ c ≤ 100) : orderC [a, b, c, c, b, a, -a, -b, -c, -c, -b, -a] 6 = (0, 0, 0, 0) := by
  have hu : upto (termC [a, b, c, c, b, a, -a, -b, -c, -c, -b, -a] 6) 12 = [turV 0 a, turV 6 b, turV 0 c, turV 6 c, turV 0 b, turV 6 a, turV 0 (-a), turV 6 (-b), turV 0 (-c), turV 6 (-c), turV 0 (-b), turV 6 (-a)] := by
    show [termC [a, b, c, c, b, a, -a, -b, -c, -c, -b, -a] 6 0, termC [a, b, c, c, b, a, -a, -b, -c, -c, -b, -a] 6 1, termC [a, b, c, c, b, a, -a, -b, -c, -c, -b, -a] 6 2, termC [a, b, c, c, b, a, -a, -b, -c, -c, -b, -a] 6 3, termC [a, b, c, c, b, a, -a, -b, -c, -c, -b, -a] 6 4, termC [a, b, c, c, b, a, -a, -b, -c, -c, -b, -a] 6 5, termC [a, b, c, c, b, a, -a, -b, -c, -c, -b, -a] 6 6, termC [a, b, c, c, b, a, -a, -b, -c, -c, -b, -a] 6 7, termC [a, b, c, c, b, a, -a, -b, -c, -c, -b, -a] 6 8, termC [a, b, c, c, b, a, -a, -b, -c, -c, -b, -a] 6 9, termC [a, b, c, c, b, a, -a, -b, -c, -c, -b, -a] 6 10, termC [a, b, c, c, b, a, -a, -b, -c, -c, -b, -a] 6 11] = _
    rw [term_val (k := 0) (m := 0) (x := a) rfl ha (by kernel_rfl) (by omega), term_val (k := 1) (m := 6) (x := b) rfl hb (by kernel_rfl) (by omega), term_val (k := 2) (m := 0) (x := c) rfl hc (by kernel_rfl) (by omega), term_val (k := 3) (m := 6) (x := c) rfl hc (by kernel_rfl) (by omega), term_val (k := 4) (m := 0) (x := b) rfl hb (by kernel_rfl) (by omega), term_val (k := 5) (m := 6) (x := a) rfl ha (by kernel_rfl) (by omega), term_val (k := 6) (m := 0) (x := -a) rfl (by omega) (by kernel_rfl) (by omega), term_val (k := 7) (m := 6) (x := -b) rfl (by omega) (by kernel_rfl) (by omega), term_val (k := 8) (m := 0) (x := -c) rfl (by omega) (by kernel_rfl) (by omega), term_val (k := 9) (m := 6) (x := -c) rfl (by omega) (by kernel_rfl) (by omega), term_val (k := 10) (m := 0) (x := -b) rfl (by omega) (by kernel_rfl) (by omega), term_val (k := 11) (m := 6) (x := -a) rfl (by omega) (by kernel_rfl) (by omega)]
  rw [orderC, hu, fold_ex _ _ 0 ⟨by decide, by decide, by decide, by decide⟩ ?_ (by decide) (by simp)]
  · simp only [List.map_cons, List.map_nil, List.sum_cons, List.sum_nil, turV]
    refine Prod.ext ?_ (Prod.ext ?_ (Prod.ext ?_ ?_)) <;> simp only <;> omega
  · intro x hx
    simp only [List.mem_cons, List.not_mem_nil, or_false] at hx
    rcases hx with rfl | rfl | rfl | rfl | rfl | rfl | rfl | rfl | rfl | rfl | rfl | rfl <;> exact turV_bd (by omega) _
/-- even orders of a quarter pattern. -/
theorem even_zero {a b c : Int} (ha : -100 ≤ a ∧ a ≤ 100) (hb : -100 ≤ b ∧ b ≤ 100) (hc : -100 ≤ c ∧ c ≤ 100) : orderC (qOf a b c) 2 = (0, 0, 0, 0) ∧ orderC (qOf a b c) 4 = (0, 0, 0, 0) ∧ orderC (qOf a b c) 6 = (0, 0, 0, 0) := by
  have e1 : wrap64 (-a) = -a := wrapIn (by omega)
  have e2 : wrap64 (-b) = -b := wrapIn (by omega)
  have e3 : wrap64 (-c) = -c := wrapIn (by omega)
  have hq : qOf a b c = [a, b, c, c, b, a, -a, -b, -c, -c, -b, -a] := by rw [qOf, e1, e2, e3]
  rw [hq]
  exact ⟨even_2 ha hb hc, even_4 ha hb hc, even_6 ha hb hc⟩
end

section
set_option linter.unusedSimpArgs false
set_option linter.unusedVariables false
open Go.RowKit

/-- does a list hold a number? -/
def hasI (l : List Int) (n : Int) : Bool := l.contains n

theorem allE_of {l : List Int} {m : Int} (h : ∀ x ∈ l, -m ≤ x ∧ x ≤ m) : allE l m = 0 := by
  unfold allE
  induction l with
  | nil => rfl
  | cons a t ih =>
    have ha := h a (by simp)
    have e : withinE a (-m) m = 0 := by unfold withinE; rw [if_neg (by omega)]
    rw [List.map_cons]
    simp only [firstE, e, if_pos]
    exact ih fun x hx => h x (by simp [hx])
theorem strH_ok {t : Int × Int × Int} (ht : TriOk t) (o : Cy) (ho : o = orderC (triQ t) 1) (w : World) :
    Calls Tryz.prog 12 #[.agg #[.int .i64 o.1, .int .i64 o.2.1, .int .i64 o.2.2.1, .int .i64 o.2.2.2]] w fun e w' => e = .returned (.tuple #[.agg (ia [(strT t).1, (strT t).2]), .int .i64 0]) ∧ Below w.heap.size w w' := by
  have hb := str_bd1 (triQ_bd ht) 1 (by omega) (by omega)
  have hb' : Bd 100000 o := by rw [ho]; exact hb
  have hs : strT t = (st0 o.1 o.2.1 o.2.2.1 o.2.2.2, st1 o.1 o.2.1 o.2.2.1 o.2.2.2) := by rw [ho]; rfl
  obtain ⟨o0, o1, o2, o3⟩ := o
  have hc : cycE o0 o1 o2 o3 = 0 := allE_of (by
    obtain ⟨h0, h1, h2, h3⟩ := hb'
    simp only at h0 h1 h2 h3
    intro x hx
    simp only [List.mem_cons, List.not_mem_nil, or_false] at hx
    rcases hx with rfl | rfl | rfl | rfl <;> omega)
  have := StrengthH_any o0 o1 o2 o3 w
  rw [hc, twoOr, if_pos rfl] at this
  rw [hs]
  exact this
theorem rootE_strT {t : Int × Int × Int} (ht : TriOk t) : rootE (strT t).1 (strT t).2 = 0 := allE_of (by
  have h := strT_bd ht
  intro x hx
  simp only [List.mem_cons, List.not_mem_nil, or_false] at hx
  rcases hx with rfl | rfl <;> omega)
theorem levE_ok {t : Int × Int × Int} (ht : TriOk t) : levE t.1 t.2.1 t.2.2 = 0 := allE_of (by
  obtain ⟨h0, h1, h2⟩ := ht
  intro x hx
  simp only [List.mem_cons, List.not_mem_nil, or_false] at hx
  rcases hx with rfl | rfl | rfl <;> omega)

end

section
set_option linter.unusedSimpArgs false
set_option linter.unusedVariables false
open Go.RowKit

theorem idx3 {l : List Int} (hl : l.length = 3) {k : Nat} (hk : k < 3) (w : World) : Sem.run Tryz.prog (Instr.index 97 (.agg (ia l)) (.int .i64 k)) w = .ok (.int .i64 (l[k]?.getD 0)) w := by
  obtain ⟨i, hi⟩ : ∃ i, Tryz.prog.info? 3 = some i := by
    obtain ⟨i0, hi, _⟩ := info_parts Tryz.infoInt
    exact ⟨_, hi⟩
  have hs : i.size = 1 := by
    obtain ⟨i0, hi0, _, h1, _⟩ := info_parts Tryz.infoInt
    rw [hi] at hi0
    cases hi0
    exact h1
  simp [Instr.index, asIntOf, run_underlying Tryz.undA3, sizeOf, typeInfo, hi, hs]
  rw [if_pos hk]
  have hx : (ia l)[k]? = some (.int .i64 (l[k]?.getD 0)) := by
    rw [ia, List.getElem?_toArray, List.getElem?_map, List.getElem?_eq_getElem (by omega)]
    rfl
  simp [part, typeInfo, sizeOf, hi, hs, hx]
/-- the limits, one of them greater. -/
def wider (lim : List Int) (q : Nat) : List Int := lim.set q (if lim[q]?.getD 0 + 1 ≤ 256 then lim[q]?.getD 0 + 1 else 256)
theorem wider_len (lim : List Int) (q : Nat) : (wider lim q).length = lim.length := List.length_set
theorem limE_of {l : List Int} (h : ∀ x ∈ l, 0 ≤ x ∧ x ≤ 256) : limE l = 0 := by
  unfold limE
  induction l with
  | nil => rfl
  | cons a t ih =>
    have ha := h a (by simp)
    have e : withinE a 0 256 = 0 := by unfold withinE; rw [if_neg (by omega)]
    rw [List.map_cons]
    simp only [firstE, e, if_pos]
    exact ih fun x hx => h x (by simp [hx])
theorem wider_ok {lim : List Int} (hl : limE lim = 0) (q : Nat) (hq : q < lim.length) : limE (wider lim q) = 0 := by
  have h := limE_all hl
  have hx : 0 ≤ lim[q]?.getD 0 ∧ lim[q]?.getD 0 ≤ 256 := by
    rw [List.getElem?_eq_getElem hq]; exact h _ (List.getElem_mem _)
  refine limE_of fun x hxm => ?_
  rcases List.mem_or_eq_of_mem_set hxm with k | k
  · exact h x k
  · rw [k]; split <;> omega
theorem wider_step {lim : List Int} (hl : limE lim = 0) (q : Nat) (hq : q < lim.length) (h : Nat) : (wider lim q)[h]?.getD 0 = lim[h]?.getD 0 ∨ (wider lim q)[h]?.getD 0 = lim[h]?.getD 0 + 1 := by
  have hx : 0 ≤ lim[q]?.getD 0 ∧ lim[q]?.getD 0 ≤ 256 := by
    rw [List.getElem?_eq_getElem hq]; exact limE_all hl _ (List.getElem_mem _)
  unfold wider
  rw [List.getElem?_set]
  by_cases c : q = h
  · subst c
    rw [if_pos rfl, if_pos hq]
    simp only [Option.getD_some]
    split <;> omega
  · rw [if_neg c]; exact .inl rfl
theorem best_more {n : Nat} (hn : n ≤ 11) {lim lim' : List Int} (hl : limE lim = 0) (hl' : limE lim' = 0) (h7 : lim.length = 7) (h7' : lim'.length = 7) (hd : ∀ h : Nat, h < 7 → lim'[h]?.getD 0 = lim[h]?.getD 0 ∨ lim'[h]?.getD 0 = lim[h]?.getD 0 + 1)
    {x y z : Nat} (hx : x ≤ n ∧ y ≤ n ∧ z ≤ n) (he : exc0 ((x : Int), (y : Int), (z : Int)) lim) (hg : gtR (strT ((x : Int), (y : Int), (z : Int))) (0, 0)) :
    ∃ x' y' z' : Nat, (x' ≤ n + 1 ∧ y' ≤ n + 1 ∧ z' ≤ n + 1) ∧ desR ((n + 1 : Nat) : Int) lim' = (((x' : Int), (y' : Int), (z' : Int)), 0) ∧ 0 ≤ sgnR ((strT ((x' : Int), (y' : Int), (z' : Int))).1 - (strT ((x : Int), (y : Int), (z : Int))).1) ((strT ((x' : Int), (y' : Int), (z' : Int))).2 - (strT ((x : Int), (y : Int), (z : Int))).2) := by
  have ht : TriOk ((x : Int), (y : Int), (z : Int)) := ⟨by simp only; omega, by simp only; omega, by simp only; omega⟩
  have he' := exc0_mono ht hl hl' h7 h7' hd he
  rcases des_cases (n + 1) lim' (by omega) hl' with ⟨_, h⟩ | ⟨x', y', z', hb, hr, _, _, hm⟩
  · have := h x y z (by omega) (by omega) (by omega) he'
    rw [this] at hg
    exact absurd hg (gtR_irr _)
  · refine ⟨x', y', z', hb, hr, ?_⟩
    have := hm x y z (by omega) (by omega) (by omega) he'
    generalize strT ((x : Int), (y : Int), (z : Int)) = s at *
    generalize strT ((x' : Int), (y' : Int), (z' : Int)) = s' at *
    unfold gtR at this
    rw [← sgn_pos] at this
    have e := sgn_neg (s.1 - s'.1) (s.2 - s'.2)
    rw [show -(s.1 - s'.1) = s'.1 - s.1 by omega, show -(s.2 - s'.2) = s'.2 - s.2 by omega] at e
    rw [e]
    omega
theorem even_has {t : Int × Int × Int} (ht : TriOk t) : hasI (chosenL (fun h => cyIs0 (orderC (triQ t) h)) 1 6) 2 = true ∧ hasI (chosenL (fun h => cyIs0 (orderC (triQ t) h)) 1 6) 4 = true ∧ hasI (chosenL (fun h => cyIs0 (orderC (triQ t) h)) 1 6) 6 = true := by
  obtain ⟨h2, h4, h6⟩ := even_zero ht.1 ht.2.1 ht.2.2
  have key : ∀ k : Nat, k < 6 → cyIs0 (orderC (triQ t) (1 + (k : Int))) = true → hasI (chosenL (fun h => cyIs0 (orderC (triQ t) h)) 1 6) (1 + (k : Int)) = true := fun k hk h => by
    unfold hasI chosenL
    rw [List.contains_iff_mem, List.mem_filter]
    exact ⟨List.mem_map.2 ⟨k, List.mem_range.2 hk, rfl⟩, h⟩
  refine ⟨?_, ?_, ?_⟩
  · exact key 1 (by omega) (by show cyIs0 (orderC (qOf t.1 t.2.1 t.2.2) 2) = true; rw [h2]; rfl)
  · exact key 3 (by omega) (by show cyIs0 (orderC (qOf t.1 t.2.1 t.2.2) 4) = true; rw [h4]; rfl)
  · exact key 5 (by omega) (by show cyIs0 (orderC (qOf t.1 t.2.1 t.2.2) 6) = true; rw [h6]; rfl)
theorem excE_ok {t : Int × Int × Int} (ht : TriOk t) {lim : List Int} (hl : limE lim = 0) : excE (triQ t) lim = 0 := by
  rw [excE, patE_of (triQ_bd ht), hl]; rfl
end

section
set_option linter.unusedSimpArgs false
set_option linter.unusedVariables false
open Go.RowKit

theorem excH_ok {t : Int × Int × Int} (ht : TriOk t) {lim : List Int} (hlim : lim.length = 7) (hl : limE lim = 0) (W : World) (hW : Powers W) : Calls Tryz.prog 42 #[.agg (ia (triQ t)), .agg (ia lim)] W fun e w' => (∃ u, e = .returned (.tuple #[u, .int .i64 0]) ∧ Ints w' u (excL (triQ t) lim)) ∧ Below W.heap.size W w' := by
  have := ExcessH_any (triQ t) lim W rfl hlim hW (fun h => smallP_all _ lim (triQ_bd ht) (limE_all hl))
  rw [excE_ok ht hl, lsOr, if_pos rfl] at this
  exact this
theorem eliH_ok {t : Int × Int × Int} (ht : TriOk t) (W : World) (hW : Powers W) : Calls Tryz.prog 41 #[.agg (ia (triQ t))] W fun e w' => (∃ u, e = .returned (.tuple #[u, .int .i64 0]) ∧ Ints w' u (chosenL (fun h => cyIs0 (orderC (triQ t) h)) 1 6)) ∧ Below W.heap.size W w' := by
  have := EliminatedH_any (triQ t) W rfl hW
  rw [patE_of (triQ_bd ht), lsOr, if_pos rfl] at this
  exact this
theorem desH_ok (n : Nat) (hn : n ≤ 12) {lim : List Int} (hlim : lim.length = 7) (hl : limE lim = 0) (W : World) (hW : Powers W) : Calls Tryz.prog 45 #[.int .i64 n, .agg (ia lim)] W fun e w' => e = .returned (.tuple #[.agg (ia (triL (desR n lim).1)), .int .i64 (desR n lim).2]) ∧ Below W.heap.size W w' :=
  Design_any n lim W hlim hW (fun _ => desSmall_all _ lim (by omega) hl)
theorem eqRoot0 (a b : Int) (W : World) : Sem.run Tryz.prog (binOp .eql 39 (.agg #[.int .i64 a, .int .i64 b]) (.agg #[.int .i64 0, .int .i64 0])) W = .ok (.bool (a == 0 && b == 0)) W := by
  go_simp
  by_cases h1 : a = 0 <;> by_cases h2 : b = 0 <;> simp [h1, h2]
theorem triOk_nat {n x y z : Nat} (hn : n ≤ 12) (h : x ≤ n ∧ y ≤ n ∧ z ≤ n) : TriOk ((x : Int), (y : Int), (z : Int)) := ⟨by simp only; omega, by simp only; omega, by simp only; omega⟩

end

end Go.Proofs.YtoihfmndhfnmmaaGreatDoor

/- Chapter 4, plain facts: turns, strengths. -/
import Derived.Test.YtfeajpkjjlddlaaGreatDoorHarT
namespace Go.Proofs.YtfeajpkjjlddlaaGreatDoor
set_option linter.unusedSimpArgs false
set_option linter.unusedVariables false
open Go.RowKit

abbrev Cy := Int × Int × Int × Int
/-- the parts of a number are at most B. -/
def Bd (B : Int) (x : Cy) : Prop := (-B ≤ x.1 ∧ x.1 ≤ B) ∧ (-B ≤ x.2.1 ∧ x.2.1 ≤ B) ∧ (-B ≤ x.2.2.1 ∧ x.2.2.1 ≤ B) ∧ (-B ≤ x.2.2.2 ∧ x.2.2.2 ≤ B)
theorem wrapIn {x : Int} (h : -4611686018427387904 ≤ x ∧ x ≤ 4611686018427387904) : wrap64 x = x := by unfold wrap64; omega
/-- one turn. -/
def rotL (x : Cy) : Cy := (-x.2.2.2, x.2.2.1 - x.2.2.2, x.2.1, x.2.1 - x.1)
theorem rot_exact {x : Cy} (h : Bd 1000000000000 x) : cyMul x (0, 0, 0, -1) = rotL x := by
  obtain ⟨x0, x1, x2, x3⟩ := x
  obtain ⟨h0, h1, h2, h3⟩ := h
  simp only at h0 h1 h2 h3
  simp only [cyMul, rotL, cy0, cy1, cy2, cy3, eiA, eiB, Int.mul_zero, Int.mul_neg, Int.mul_one]
  have z : wrap64 0 = 0 := by unfold wrap64; omega
  simp only [z, Int.sub_zero, Int.zero_sub, Int.add_zero, Int.zero_add]
  refine Prod.ext ?_ (Prod.ext ?_ (Prod.ext ?_ ?_))
  all_goals simp only
  all_goals (unfold wrap64; omega)
def rotN : Nat → Cy → Cy
  | 0, x => x
  | k + 1, x => rotL (rotN k x)
theorem rotL_bd {B : Int} {x : Cy} (h : Bd B x) : Bd (2 * B) (rotL x) := by
  obtain ⟨x0, x1, x2, x3⟩ := x
  obtain ⟨h0, h1, h2, h3⟩ := h
  simp only at h0 h1 h2 h3
  refine ⟨?_, ?_, ?_, ?_⟩
  all_goals (simp only [rotL]; omega)
theorem rotC_exact {x : Cy} (h : Bd 1048576 x) (m : Nat) (hm : m ≤ 12) : rotC m x = rotN m x ∧ Bd (1048576 * 2 ^ m) (rotN m x) := by
  induction m with
  | zero => exact ⟨rfl, by simpa [rotN] using h⟩
  | succ m ih =>
    obtain ⟨i1, i2⟩ := ih (by omega)
    have hp : (2 : Int) ^ m ≤ 2 ^ 11 := by
      have : (2 : Nat) ^ m ≤ 2 ^ 11 := Nat.pow_le_pow_right (by omega) (by omega)
      exact_mod_cast this
    have hb : Bd 1000000000000 (rotN m x) := by
      obtain ⟨h0, h1, h2, h3⟩ := i2
      generalize (2 : Int) ^ m = P at hp h0 h1 h2 h3
      refine ⟨?_, ?_, ?_, ?_⟩ <;> omega
    refine ⟨by rw [rotC, i1, rot_exact hb, rotN], ?_⟩
    rw [rotN, show (1048576 : Int) * 2 ^ (m + 1) = 2 * (1048576 * 2 ^ m) by rw [Int.pow_succ]; generalize (2 : Int) ^ m = P; omega]
    exact rotL_bd i2
theorem quarter_exact {B : Int} {x : Cy} (h : Bd B x) (hB : B ≤ 4000000000000000000) (k : Nat) : Bd B (quarters k x) ∧ quarters (k + 1) x = (-(quarters k x).2.2.1, -(quarters k x).2.2.2, (quarters k x).1, (quarters k x).2.1) := by
  induction k with
  | zero =>
    obtain ⟨h0, h1, h2, h3⟩ := h
    refine ⟨⟨h0, h1, h2, h3⟩, ?_⟩
    show (wrap64 (-x.2.2.1), wrap64 (-x.2.2.2), x.1, x.2.1) = _
    rw [wrapIn (by omega), wrapIn (by omega)]
    rfl
  | succ k ih =>
    obtain ⟨⟨h0, h1, h2, h3⟩, i2⟩ := ih
    have hb : Bd B (quarters (k + 1) x) := by
      rw [i2]
      refine ⟨?_, ?_, ?_, ?_⟩ <;> simp only <;> omega
    obtain ⟨g0, g1, g2, g3⟩ := hb
    refine ⟨⟨g0, g1, g2, g3⟩, ?_⟩
    show (wrap64 (-(quarters (k + 1) x).2.2.1), wrap64 (-(quarters (k + 1) x).2.2.2), _, _) = _
    rw [wrapIn (by omega), wrapIn (by omega)]
theorem pow_exact {x : Cy} (h : Bd 1048576 x) (p : Nat) (hp : p < 3) : cyMul x (powAt p) = rotN p x := by
  obtain ⟨x0, x1, x2, x3⟩ := x
  obtain ⟨h0, h1, h2, h3⟩ := h
  simp only at h0 h1 h2 h3
  have z : wrap64 0 = 0 := by unfold wrap64; omega
  obtain rfl | rfl | rfl : p = 0 ∨ p = 1 ∨ p = 2 := by omega
  · show cyMul _ (1, 0, 0, 0) = _
    simp only [cyMul, rotN, rotL, cy0, cy1, cy2, cy3, eiA, eiB, Int.mul_zero, Int.mul_neg, Int.mul_one, z, Int.sub_zero, Int.zero_sub, Int.add_zero, Int.zero_add]
    refine Prod.ext ?_ (Prod.ext ?_ (Prod.ext ?_ ?_))
    all_goals simp only
    all_goals (unfold wrap64; omega)
  · show cyMul _ (0, 0, 0, -1) = _
    exact rot_exact ⟨by simp only; omega, by simp only; omega, by simp only; omega, by simp only; omega⟩
  · show cyMul _ (1, 1, 0, 0) = _
    simp only [cyMul, rotN, rotL, cy0, cy1, cy2, cy3, eiA, eiB, Int.mul_zero, Int.mul_neg, Int.mul_one, z, Int.sub_zero, Int.zero_sub, Int.add_zero, Int.zero_add]
    refine Prod.ext ?_ (Prod.ext ?_ (Prod.ext ?_ ?_))
    all_goals simp only
    all_goals (unfold wrap64; omega)
theorem rotN_add (a b : Nat) (x : Cy) : rotN (a + b) x = rotN a (rotN b x) := by
  induction a with
  | zero => rw [Nat.zero_add]; rfl
  | succ a ih => rw [Nat.succ_add, rotN, ih, rotN]
theorem rot3 (x : Cy) : rotN 3 x = (-x.2.2.1, -x.2.2.2, x.1, x.2.1) := by
  obtain ⟨x0, x1, x2, x3⟩ := x
  refine Prod.ext ?_ (Prod.ext ?_ (Prod.ext ?_ ?_))
  all_goals simp only [rotN, rotL]
  all_goals omega
theorem quarters_rot {x : Cy} {B : Int} (h : Bd B x) (hB : B ≤ 4000000000000000000) (k : Nat) : quarters k x = rotN (3 * k) x := by
  induction k with
  | zero => rfl
  | succ k ih => rw [(quarter_exact h hB k).2, ih, show 3 * (k + 1) = 3 + 3 * k by omega, rotN_add, rot3]
/-- both ways to turn a number are the same. -/
theorem turn_rot {x : Cy} (h : Bd 1048576 x) (m : Nat) (hm : m < 12) : turnC x m = rotC m x := by
  have hp := pow_exact h (m % 3) (by omega)
  have hb := (rotC_exact h (m % 3) (by omega)).2
  have hpb : (2 : Int) ^ (m % 3) ≤ 4 := by
    obtain h | h | h : m % 3 = 0 ∨ m % 3 = 1 ∨ m % 3 = 2 := by omega
    all_goals (rw [h]; decide)
  rw [turnC, hp, quarters_rot hb (by generalize (2 : Int) ^ (m % 3) = P at hpb ⊢; omega), ← rotN_add, show 3 * (m / 3) + m % 3 = m by omega, (rotC_exact h m (by omega)).1]
theorem mod12_mod (n : Int) : (mod12 n : Int) = n % 12 := by
  unfold mod12
  have h1 : n.tmod 12 = n % 12 ∨ n.tmod 12 = n % 12 - 12 := by
    rcases Int.le_total 0 n with h | h
    · left; exact Int.tmod_eq_emod_of_nonneg h
    · obtain ⟨m, rfl⟩ : ∃ m, n = -m := ⟨-n, by omega⟩
      rw [Int.neg_tmod, Int.tmod_eq_emod_of_nonneg (by omega)]
      omega
  omega

theorem mulb {x y A B : Int} (hx : -A ≤ x ∧ x ≤ A) (hy : -B ≤ y ∧ y ≤ B) : -(A * B) ≤ x * y ∧ x * y ≤ A * B := by
  have h : (x * y).natAbs ≤ A.natAbs * B.natAbs := by rw [Int.natAbs_mul]; exact Nat.mul_le_mul (by omega) (by omega)
  have e : ((A.natAbs * B.natAbs : Nat) : Int) = A * B := by rw [Int.natCast_mul, Int.natAbs_of_nonneg (by omega), Int.natAbs_of_nonneg (by omega)]
  omega
/-- products of Eisenstein integers that are not too large. -/
theorem ei_exact {a b c d : Int} (ha : -268435456 ≤ a ∧ a ≤ 268435456) (hb : -268435456 ≤ b ∧ b ≤ 268435456) (hc : -268435456 ≤ c ∧ c ≤ 268435456) (hd : -268435456 ≤ d ∧ d ≤ 268435456) :
    eiA a b c d = a * c - b * d ∧ eiB a b c d = a * d + b * c - b * d ∧ (-216172782113783808 ≤ eiA a b c d ∧ eiA a b c d ≤ 216172782113783808) ∧ (-216172782113783808 ≤ eiB a b c d ∧ eiB a b c d ≤ 216172782113783808) := by
  have h1 := mulb ha hc
  have h2 := mulb hb hd
  have h3 := mulb ha hd
  have h4 := mulb hb hc
  unfold eiA eiB
  generalize a * c = p at h1 ⊢
  generalize b * d = q at h2 ⊢
  generalize a * d = r at h3 ⊢
  generalize b * c = s at h4 ⊢
  have e1 : wrap64 p = p := wrapIn (by omega)
  have e2 : wrap64 q = q := wrapIn (by omega)
  have e3 : wrap64 r = r := wrapIn (by omega)
  have e4 : wrap64 s = s := wrapIn (by omega)
  rw [e1, e2, e3, e4, wrapIn (x := p - q) (by omega), wrapIn (x := r + s) (by omega), wrapIn (x := r + s - q) (by omega)]
  exact ⟨rfl, rfl, by omega, by omega⟩
theorem strength_same {x0 x1 x2 x3 : Int} (h : Bd 1048576 (x0, x1, x2, x3)) : st0 x0 x1 x2 x3 = sr0 x0 x1 x2 x3 ∧ st1 x0 x1 x2 x3 = sr1 x0 x1 x2 x3 := by
  obtain ⟨h0, h1, h2, h3⟩ := h
  simp only at h0 h1 h2 h3
  have b0 : wrap64 (x0 - x1) = x0 - x1 := wrapIn (by omega)
  have b1 : wrap64 (-x1) = -x1 := wrapIn (by omega)
  have c0 : wrap64 (x2 - x3) = x2 - x3 := wrapIn (by omega)
  have c1 : wrap64 (-x3) = -x3 := wrapIn (by omega)
  have d0 : wrap64 (0 - (x2 - x3)) = x3 - x2 := by rw [wrapIn (by omega)]; omega
  have d1 : wrap64 (0 - -x3) = x3 := by rw [wrapIn (by omega)]; omega
  unfold st0 st1 sr1 sr0 sr2 cy0 cy2
  rw [b0, b1, c0, c1, d0, d1]
  obtain ⟨f1, f2, f3, f4⟩ := ei_exact (a := x0) (b := x1) (c := x0 - x1) (d := -x1) (by omega) (by omega) (by omega) (by omega)
  obtain ⟨g1, g2, g3, g4⟩ := ei_exact (a := x2) (b := x3) (c := x2 - x3) (d := -x3) (by omega) (by omega) (by omega) (by omega)
  obtain ⟨k1, k2, k3, k4⟩ := ei_exact (a := x2) (b := x3) (c := x3 - x2) (d := x3) (by omega) (by omega) (by omega) (by omega)
  obtain ⟨l1, l2, l3, l4⟩ := ei_exact (a := x0) (b := x1) (c := x3 - x2) (d := x3) (by omega) (by omega) (by omega) (by omega)
  obtain ⟨m1, m2, m3, m4⟩ := ei_exact (a := x2) (b := x3) (c := x0 - x1) (d := -x1) (by omega) (by omega) (by omega) (by omega)
  have e1 : eiA x2 x3 (x2 - x3) (-x3) = -(eiA x2 x3 (x3 - x2) x3) := by rw [g1, k1]; grind
  have e2 : eiB x2 x3 (x0 - x1) (-x1) = eiA x0 x1 (x3 - x2) x3 + eiA x2 x3 (x0 - x1) (-x1) := by rw [m2, l1, m1]; grind
  constructor
  · rw [e1]; congr 1
  · rw [e2, wrapIn (x := eiA x0 x1 (x3 - x2) x3 + eiA x2 x3 (x0 - x1) (-x1)) (by omega)]

end Go.Proofs.YtfeajpkjjlddlaaGreatDoor

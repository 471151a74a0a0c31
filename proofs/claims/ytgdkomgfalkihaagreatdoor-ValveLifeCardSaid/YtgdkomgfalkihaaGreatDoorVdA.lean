/- Valves as bits: the plain facts of the reference's halving and of the program's bits. -/
import Derived.Test.YtgdkomgfalkihaaGreatDoorVbP
namespace Go.Proofs.YtgdkomgfalkihaaGreatDoor
set_option linter.unusedSimpArgs false
set_option linter.unusedVariables false
open Go.RowKit
theorem halfK_div {n : Int} (h : 0 ≤ n) (v : Nat) : halfK n v = n / 2 ^ v := by
 induction v with
 | zero => simp [halfK]
 | succ v ih =>
   simp only [halfK]
   rw [ih, Int.tdiv_eq_ediv_of_nonneg (Int.ediv_nonneg h (Int.le_of_lt (pow_pos2 v))), Int.ediv_ediv_of_nonneg (Int.le_of_lt (pow_pos2 v)), Int.pow_succ]
theorem hasR_bit {n : Int} (h : 0 ≤ n) (v : Nat) : hasR n v = decide (bitV n v = 1) := by
 unfold hasR bitV
 rw [halfK_div h, Int.tmod_eq_emod_of_nonneg (Int.ediv_nonneg h (Int.le_of_lt (pow_pos2 v)))]
 rw [Bool.eq_iff_iff]; simp
theorem natPow (v : Nat) : ((2 ^ v : Nat) : Int) = 2 ^ v := by simp
theorem bitV_nat (N v : Nat) : bitV (N : Int) v = if N.testBit v then 1 else 0 := by
 unfold bitV
 have h1 : ((N : Int) / 2 ^ v % 2) = ((N / 2 ^ v % 2 : Nat) : Int) := by
  rw [← natPow]; simp
 rw [h1, Nat.testBit_eq_decide_div_mod_eq]
 have : N / 2 ^ v % 2 < 2 := Nat.mod_lt _ (by decide)
 by_cases h : N / 2 ^ v % 2 = 1
 ·simp [h]
 ·have : N / 2 ^ v % 2 = 0 := by omega
  simp [this]
theorem hasR_nat (N v : Nat) : hasR (N : Int) v = N.testBit v := by
 rw [hasR_bit (by omega), bitV_nat]
 cases N.testBit v <;> simp
/-- what changes, bit by bit. -/
theorem bitV_xor {a b : Int} (ha : 0 ≤ a ∧ a ≤ 4095) (hb : 0 ≤ b ∧ b ≤ 4095) (v : Nat) : bitV (bits .xor .i64 a b) v = if hasR a v != hasR b v then 1 else 0 := by
 obtain ⟨A, rfl⟩ := Int.eq_ofNat_of_zero_le ha.1
 obtain ⟨B, rfl⟩ := Int.eq_ofNat_of_zero_le hb.1
 have h := (xor_nat A B (by omega) (by omega)).1
 show bitV (bits .xor .i64 (A : Int) (B : Int)) v = if hasR (A : Int) v != hasR (B : Int) v then 1 else 0
 rw [h, bitV_nat, hasR_nat, hasR_nat, Nat.testBit_xor]
/-- pulses without a valve. -/
def wtoR (p : Int) (v : Nat) : Int := if hasR p v = true then p - 2 ^ v else p
theorem sub_two_pow {p v : Nat} (h : p.testBit v = true) (i : Nat) : (p - 2 ^ v).testBit i = (p.testBit i && !decide (i = v)) := by
 rw [Nat.testBit_eq_decide_div_mod_eq] at h
 simp only [decide_eq_true_eq] at h
 obtain ⟨q, hq⟩ : ∃ q, q = p / 2 ^ v := ⟨_, rfl⟩
 rw [← hq] at h
 obtain ⟨b, hb⟩ : ∃ b, b = p % 2 ^ v := ⟨_, rfl⟩
 have hp : p = 2 ^ v * q + b := by rw [hq, hb]; exact (Nat.div_add_mod p (2 ^ v)).symm
 have hlt : b < 2 ^ v := by rw [hb]; exact Nat.mod_lt _ (Nat.two_pow_pos v)
 have hs : p - 2 ^ v = 2 ^ v * (q - 1) + b := by
  have h1 : 2 ^ v * q = 2 ^ v * (q - 1) + 2 ^ v := by
   have : q = q - 1 + 1 := by omega
   conv => lhs; rw [this, Nat.mul_add, Nat.mul_one]
  rw [hp, h1]; omega
 rw [hs, hp]
 rw [Nat.testBit_two_pow_mul_add _ hlt, Nat.testBit_two_pow_mul_add _ hlt]
 by_cases hi : i < v
 ·rw [if_pos hi, if_pos hi]
  have : ¬ i = v := by omega
  simp [this]
 ·rw [if_neg hi, if_neg hi]
  by_cases he : i = v
  ·subst he
   simp only [Nat.sub_self, decide_true, Bool.not_true, Bool.and_false]
   rw [Nat.testBit_eq_decide_div_mod_eq]; simp; omega
  ·obtain ⟨j, hj⟩ : ∃ j, i - v = j + 1 := ⟨i - v - 1, by omega⟩
   rw [hj, Nat.testBit_succ, Nat.testBit_succ, show (q - 1) / 2 = q / 2 by omega]
   simp [he]
theorem wtoR_nat (P v : Nat) : ∃ P' : Nat, wtoR (P : Int) v = (P' : Int) ∧ P' ≤ P ∧ ∀ i, P'.testBit i = (P.testBit i && !decide (i = v)) := by
 unfold wtoR
 rw [hasR_nat]
 by_cases h : P.testBit v = true
 ·rw [if_pos h]
  refine ⟨P - 2 ^ v, ?_, Nat.sub_le _ _, sub_two_pow h⟩
  have := Nat.ge_two_pow_of_testBit h
  rw [← natPow]; omega
 ·rw [if_neg h]
  refine ⟨P, rfl, Nat.le_refl _, fun i => ?_⟩
  by_cases he : i = v
  ·subst he; simp [h]
  ·simp [he]
/-- pulses without the valves below k of a set. -/
def bypK (m p : Int) : Nat → Int
 | 0 => p
 | k + 1 => if hasR m k = true then wtoR (bypK m p k) k else bypK m p k
theorem bypK_nat (M P k : Nat) : ∃ P' : Nat, bypK (M : Int) (P : Int) k = (P' : Int) ∧ P' ≤ P ∧ ∀ i, P'.testBit i = (P.testBit i && !(decide (i < k) && M.testBit i)) := by
 induction k with
 | zero => exact ⟨P, rfl, Nat.le_refl _, fun i => by simp⟩
 | succ k ih =>
   obtain ⟨Q, h1, h2, h3⟩ := ih
   simp only [bypK]
   rw [h1, hasR_nat]
   by_cases h : M.testBit k = true
   ·rw [if_pos h]
    obtain ⟨Q', g1, g2, g3⟩ := wtoR_nat Q k
    refine ⟨Q', g1, Nat.le_trans g2 h2, fun i => ?_⟩
    rw [g3, h3]
    by_cases he : i = k
    ·subst he; simp [h]
    ·have : (decide (i < k + 1)) = decide (i < k) := by rw [Bool.eq_iff_iff]; simp; omega
     rw [this]; simp [he]
   ·rw [if_neg h]
    refine ⟨Q, rfl, h2, fun i => ?_⟩
    rw [h3]
    by_cases he : i = k
    ·subst he; simp [h]
    ·have : (decide (i < k + 1)) = decide (i < k) := by rw [Bool.eq_iff_iff]; simp; omega
     rw [this]
theorem bypV_eq {m p : Int} (hm : 0 ≤ m ∧ m ≤ 4095) (hp : 0 ≤ p ∧ p ≤ 4095) : bypV m p = bypK m p 12 := by
 obtain ⟨M, rfl⟩ := Int.eq_ofNat_of_zero_le hm.1
 obtain ⟨P, rfl⟩ := Int.eq_ofNat_of_zero_le hp.1
 obtain ⟨P', h1, h2, h3⟩ := bypK_nat M P 12
 show bypV (M : Int) (P : Int) = bypK (M : Int) (P : Int) 12
 rw [h1]
 unfold bypV
 show IntKind.i64.wrap ((BitVec.ofInt 64 (P : Int) &&& ~~~ BitVec.ofInt 64 (M : Int)).toNat : Nat) = _
 have q1 : BitVec.ofInt 64 (P : Int) = BitVec.ofNat 64 P := rfl
 have q2 : BitVec.ofInt 64 (M : Int) = BitVec.ofNat 64 M := rfl
 have hP : P < 2 ^ 12 := by omega
 have hM : M < 2 ^ 12 := by omega
 have e : (BitVec.ofNat 64 P &&& ~~~ BitVec.ofNat 64 M).toNat = P' := by
  apply Nat.eq_of_testBit_eq
  intro i
  rw [h3]
  show (BitVec.ofNat 64 P &&& ~~~ BitVec.ofNat 64 M).getLsbD i = _
  rw [BitVec.getLsbD_and, BitVec.getLsbD_not, BitVec.getLsbD_ofNat, BitVec.getLsbD_ofNat]
  by_cases hi : i < 12
  ·have : i < 64 := by omega
   simp [hi, this]
  ·have hb : P.testBit i = false := Nat.testBit_lt_two_pow (Nat.lt_of_lt_of_le hP (Nat.pow_le_pow_right (by decide) (by omega)))
   simp [hb]
 rw [q1, q2, e]
 exact IntWalk.i64_in _ (by omega)
end Go.Proofs.YtgdkomgfalkihaaGreatDoor

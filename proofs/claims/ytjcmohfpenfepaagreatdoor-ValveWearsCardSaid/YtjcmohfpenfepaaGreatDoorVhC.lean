/- The reference's CheckPart, CheckSample, Sixteenths at every word (as in chapter 4's records). -/
import Derived.Test.YtjcmohfpenfepaaGreatDoorVcN
import Derived.Test.YtjcmohfpenfepaaGreatDoorVeE
import Derived.Test.YtjcmohfpenfepaaGreatDoorVdE
namespace Go.Proofs.YtjcmohfpenfepaaGreatDoor
section
set_option linter.unusedSimpArgs false
set_option linter.unusedVariables false
open Go.RowKit Flp
end
section
set_option linter.unusedSimpArgs false
set_option linter.unusedVariables false
open Go.RowKit
end
section
set_option linter.unusedSimpArgs false
set_option linter.unusedVariables false
open Go.RowKit Flp
theorem subB_has {p s : Int} (hp : 0 ≤ p ∧ p ≤ 4095) : subB s p = hasR p s.toNat := by
 unfold subB
 rw [bit_and _ hp, hasR_bit hp.1, Bool.eq_iff_iff]
 simp
/-- pulses with a spare valve in place of a failed one. -/
def sbtR (f s : Nat) (p : Int) : Int := if hasR p f = true then wtoR p f + 2 ^ s else wtoR p f
theorem or_pow {A s : Nat} (h : A.testBit s = false) : A ||| 2 ^ s = A + 2 ^ s := by
 have h1 : (A ||| 2 ^ s).testBit s = true := by rw [Nat.testBit_or, Nat.testBit_two_pow]; simp
 have h2 := sub_two_pow h1
 have h3 : (A ||| 2 ^ s) - 2 ^ s = A := by
  apply Nat.eq_of_testBit_eq
  intro i
  rw [h2, Nat.testBit_or, Nat.testBit_two_pow]
  by_cases he : i = s
  ·subst he; simp [h]
  ·have : ¬ s = i := fun e => he e.symm
   simp [he, this]
 have h4 := Nat.ge_two_pow_of_testBit h1
 omega
theorem byp_one {p : Int} {f : Nat} (hp : 0 ≤ p ∧ p ≤ 4095) (hf : f < 12) : bypV (2 ^ f) p = wtoR p f := by
 have hb : (2 : Nat) ^ f ≤ 2 ^ 11 := Nat.pow_le_pow_right (by decide) (by omega)
 have e2 : (2 : Int) ^ f = ((2 ^ f : Nat) : Int) := by simp
 have p0 : (0 : Int) < 2 ^ f := pow_pos2 f
 rw [e2, bypV_eq (by omega) hp]
 obtain ⟨P, rfl⟩ := Int.eq_ofNat_of_zero_le hp.1
 obtain ⟨P1, h1, -, h3⟩ := bypK_nat (2 ^ f) P 12
 obtain ⟨P2, g1, -, g3⟩ := wtoR_nat P f
 show bypK ((2 ^ f : Nat) : Int) (P : Int) 12 = wtoR (P : Int) f
 rw [h1, g1]
 congr 1
 apply Nat.eq_of_testBit_eq
 intro i
 rw [h3, g3, Nat.testBit_two_pow]
 by_cases he : i = f
 ·subst he; simp [hf]
 ·have : ¬ f = i := fun e => he e.symm
  simp [he, this]
theorem or_byp {A : Nat} {s : Nat} {b : Int} (hA : A ≤ 4095) (hs : s < 12) (h : A.testBit s = false) (hb : b = 0 ∨ b = 1) : bits .or .i64 (A : Int) (IntKind.i64.wrap (b * 2 ^ s)) = if b = 1 then (A : Int) + 2 ^ s else A := by
 have hp : (2 : Nat) ^ s ≤ 2 ^ 11 := Nat.pow_le_pow_right (by decide) (by omega)
 have e2 : (2 : Int) ^ s = ((2 ^ s : Nat) : Int) := by simp
 have p0 : (0 : Int) < 2 ^ s := pow_pos2 s
 have q1 : BitVec.ofInt 64 (A : Int) = BitVec.ofNat 64 A := rfl
 rcases hb with rfl | rfl
 ·rw [Int.zero_mul, if_neg (by decide), show IntKind.i64.wrap 0 = 0 by decide]
  show IntKind.i64.wrap ((BitVec.ofInt 64 (A : Int) ||| BitVec.ofInt 64 ((0 : Nat) : Int)).toNat : Nat) = _
  have q2 : BitVec.ofInt 64 ((0 : Nat) : Int) = BitVec.ofNat 64 0 := rfl
  rw [q1, q2, BitVec.toNat_or, BitVec.toNat_ofNat, BitVec.toNat_ofNat, Nat.mod_eq_of_lt (by omega), Nat.zero_mod, Nat.or_zero, IntWalk.i64_in _ (by omega)]
 ·rw [Int.one_mul, if_pos rfl, e2, IntWalk.i64_in _ (by omega)]
  show IntKind.i64.wrap ((BitVec.ofInt 64 (A : Int) ||| BitVec.ofInt 64 ((2 ^ s : Nat) : Int)).toNat : Nat) = _
  have q2 : BitVec.ofInt 64 ((2 ^ s : Nat) : Int) = BitVec.ofNat 64 (2 ^ s) := rfl
  rw [q1, q2, BitVec.toNat_or, BitVec.toNat_ofNat, BitVec.toNat_ofNat, Nat.mod_eq_of_lt (by omega), Nat.mod_eq_of_lt (by omega), or_pow h, IntWalk.i64_in _ (by omega)]
  omega
theorem subV_eq {f s p : Int} (hp : 0 ≤ p ∧ p ≤ 4095) (hf : 0 ≤ f ∧ f ≤ 11) (hs : 0 ≤ s ∧ s ≤ 11) (hne : f ≠ s) (hn : hasR p s.toNat = false) : subV f s p = sbtR f.toNat s.toNat p := by
 obtain ⟨F, rfl⟩ := Int.eq_ofNat_of_zero_le hf.1
 obtain ⟨S, rfl⟩ := Int.eq_ofNat_of_zero_le hs.1
 have hF : F < 12 := by omega
 have hS : S < 12 := by omega
 have hpow : (2 : Nat) ^ F ≤ 2 ^ 11 := Nat.pow_le_pow_right (by decide) (by omega)
 have e2 : (2 : Int) ^ F = ((2 ^ F : Nat) : Int) := by simp
 have p0 : (0 : Int) < 2 ^ F := pow_pos2 F
 show bits .or .i64 (bits .andNot .i64 p (IntKind.i64.wrap (2 ^ F))) (IntKind.i64.wrap (bits .and .i64 (p / 2 ^ F) 1 * 2 ^ S)) = sbtR F S p
 have hw : IntKind.i64.wrap (2 ^ F) = 2 ^ F := by rw [e2]; exact IntWalk.i64_in _ (by omega)
 rw [hw, bit_and _ hp]
 have h1 : bits .andNot .i64 p (2 ^ F) = wtoR p F := byp_one hp hF
 rw [h1]
 have hn' : hasR p S = false := hn
 have hbit := hasR_bit hp.1 F
 obtain ⟨P, rfl⟩ := Int.eq_ofNat_of_zero_le hp.1
 obtain ⟨P', g1, g2, g3⟩ := wtoR_nat P F
 have hneN : S ≠ F := fun e => hne (by rw [e])
 have ht : P'.testBit S = false := by
  rw [g3, ← hasR_nat]
  have : hasR (P : Int) S = false := hn'
  rw [this]; rfl
 unfold sbtR
 show bits .or .i64 (wtoR (P : Int) F) (IntKind.i64.wrap (bitV (P : Int) F * 2 ^ S)) = if hasR (P : Int) F = true then wtoR (P : Int) F + 2 ^ S else wtoR (P : Int) F
 rw [g1]
 have hr := bitV_rng (P : Int) F
 rw [or_byp (by omega) hS ht (by omega)]
 have hb2 : hasR (P : Int) F = decide (bitV (P : Int) F = 1) := hbit
 rw [hb2]
 simp
end
end Go.Proofs.YtjcmohfpenfepaaGreatDoor

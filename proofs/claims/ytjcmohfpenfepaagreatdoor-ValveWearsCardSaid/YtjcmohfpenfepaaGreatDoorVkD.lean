/- The law ValveWears: the wear of n uses is n sixteenths: valid, its sixteenths, sixteen times it, the order (plain facts; by the kernel over all n). -/
import Derived.Test.YtjcmohfpenfepaaGreatDoorVcN
namespace Go.Proofs.YtjcmohfpenfepaaGreatDoor
set_option linter.unusedSimpArgs false
set_option linter.unusedVariables false
open Go.RowKit Flp
/-- what the kernel looks at for one n. -/
def sixB (n : Nat) : Bool := smpE (wq (n : Int)) == 0 && (sxN (wq (n : Int)) == (n : Int) && Ieee.single.mul 1098907648 (wq (n : Int)) == some (floatOfInt .f32 (n : Int)))
def sixAll (a : Nat) : Bool := (List.range 1024).all fun n => sixB (a + n)
set_option maxRecDepth 1000000 in
theorem sixAll0 : sixAll 0 = true := by decide +kernel
set_option maxRecDepth 1000000 in
theorem sixAll1 : sixAll 1024 = true := by decide +kernel
set_option maxRecDepth 1000000 in
theorem sixAll2 : sixAll 2048 = true := by decide +kernel
set_option maxRecDepth 1000000 in
theorem sixAll3 : sixAll 3072 = true := by decide +kernel
set_option maxRecDepth 1000000 in
theorem sixAll4 : sixAll 4096 = true := by decide +kernel
set_option maxRecDepth 1000000 in
theorem sixAll5 : sixAll 5120 = true := by decide +kernel
set_option maxRecDepth 1000000 in
theorem sixAll6 : sixAll 6144 = true := by decide +kernel
set_option maxRecDepth 1000000 in
theorem sixAll7 : sixAll 7168 = true := by decide +kernel
set_option maxRecDepth 1000000 in
theorem sixAll8 : sixAll 8192 = true := by decide +kernel
set_option maxRecDepth 1000000 in
theorem sixAll9 : sixAll 9216 = true := by decide +kernel
set_option maxRecDepth 1000000 in
theorem sixAll10 : sixAll 10240 = true := by decide +kernel
set_option maxRecDepth 1000000 in
theorem sixAll11 : sixAll 11264 = true := by decide +kernel
set_option maxRecDepth 1000000 in
theorem sixAll12 : sixAll 12288 = true := by decide +kernel
set_option maxRecDepth 1000000 in
theorem sixAll13 : sixAll 13312 = true := by decide +kernel
set_option maxRecDepth 1000000 in
theorem sixAll14 : sixAll 14336 = true := by decide +kernel
set_option maxRecDepth 1000000 in
theorem sixAll15 : sixAll 15360 = true := by decide +kernel
theorem sixLast : sixB 16384 = true := by decide +kernel
theorem sixAll_at {a : Nat} (h : sixAll a = true) {n : Nat} (h0 : a ≤ n) (h1 : n < a + 1024) : sixB n = true := by
 unfold sixAll at h
 rw [List.all_eq_true] at h
 have := h (n - a) (List.mem_range.2 (by omega))
 rw [show a + (n - a) = n by omega] at this
 exact this
theorem six_at {m : Nat} (h : m ≤ 16384) : sixB m = true := by
 by_cases hz : m = 16384
 ·subst hz; exact sixLast
 by_cases h0 : m < 1024
 ·exact sixAll_at sixAll0 (by omega) (by omega)
 by_cases h1 : m < 2048
 ·exact sixAll_at sixAll1 (by omega) (by omega)
 by_cases h2 : m < 3072
 ·exact sixAll_at sixAll2 (by omega) (by omega)
 by_cases h3 : m < 4096
 ·exact sixAll_at sixAll3 (by omega) (by omega)
 by_cases h4 : m < 5120
 ·exact sixAll_at sixAll4 (by omega) (by omega)
 by_cases h5 : m < 6144
 ·exact sixAll_at sixAll5 (by omega) (by omega)
 by_cases h6 : m < 7168
 ·exact sixAll_at sixAll6 (by omega) (by omega)
 by_cases h7 : m < 8192
 ·exact sixAll_at sixAll7 (by omega) (by omega)
 by_cases h8 : m < 9216
 ·exact sixAll_at sixAll8 (by omega) (by omega)
 by_cases h9 : m < 10240
 ·exact sixAll_at sixAll9 (by omega) (by omega)
 by_cases h10 : m < 11264
 ·exact sixAll_at sixAll10 (by omega) (by omega)
 by_cases h11 : m < 12288
 ·exact sixAll_at sixAll11 (by omega) (by omega)
 by_cases h12 : m < 13312
 ·exact sixAll_at sixAll12 (by omega) (by omega)
 by_cases h13 : m < 14336
 ·exact sixAll_at sixAll13 (by omega) (by omega)
 by_cases h14 : m < 15360
 ·exact sixAll_at sixAll14 (by omega) (by omega)
 by_cases h15 : m < 16384
 ·exact sixAll_at sixAll15 (by omega) (by omega)
 omega
theorem wq_six {n : Int} (h : 0 ≤ n ∧ n ≤ 16384) : smpE (wq n) = 0 ∧ sxN (wq n) = n ∧ Ieee.single.mul 1098907648 (wq n) = some (floatOfInt .f32 n) := by
 obtain ⟨m, rfl⟩ := Int.eq_ofNat_of_zero_le h.1
 have := six_at (m := m) (by omega)
 unfold sixB at this
 rw [Bool.and_eq_true, Bool.and_eq_true, beq_iff_eq, beq_iff_eq, beq_iff_eq] at this
 exact this
end Go.Proofs.YtjcmohfpenfepaaGreatDoor

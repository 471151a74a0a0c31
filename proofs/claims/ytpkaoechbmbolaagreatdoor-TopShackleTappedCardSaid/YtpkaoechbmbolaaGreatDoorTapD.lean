/- TopShackleTapped: taps between, the ramp of one order; plain facts. -/
import Derived.Test.YtpkaoechbmbolaaGreatDoorTapC
import Derived.Test.YtpkaoechbmbolaaGreatDoorTapB
namespace Go.Proofs.YtpkaoechbmbolaaGreatDoor
set_option linter.unusedSimpArgs false
set_option linter.unusedVariables false
open Go.RowKit

theorem brE_iff (x : Int × Int) : brE x = 0 ↔ (0 ≤ x.1 ∧ x.1 ≤ 50) ∧ (0 ≤ x.2 ∧ x.2 ≤ 2000) ∧ ¬ (x.1 = 0 ∧ x.2 = 0) := by
  unfold brE withinE whenE
  by_cases h1 : x.1 < 0 ∨ 50 < x.1
  · rw [if_pos h1]
    simp [firstE]
    omega
  · rw [if_neg h1]
    by_cases h2 : x.2 < 0 ∨ 2000 < x.2
    · rw [if_pos h2]
      simp [firstE]
      omega
    · rw [if_neg h2]
      by_cases h3 : x.1 = 0 ∧ x.2 = 0
      · obtain ⟨a, b⟩ := h3
        simp [firstE, a, b]
      · have : (x.1 == 0 && x.2 == 0) = false := by
          rw [Bool.and_eq_false_iff]
          by_cases h : x.1 = 0
          · right; rw [beq_eq_false_iff_ne]; exact fun e => h3 ⟨h, e⟩
          · left; rw [beq_eq_false_iff_ne]; exact h
        rw [this]
        simp [firstE]
        omega
theorem fltE_cons (x : Int × Int) (ls : List (Int × Int)) : fltE (x :: ls) = 0 ↔ fltN (x :: ls) = 0 ∧ brE x = 0 ∧ firstE (ls.map brE) = 0 := by
  unfold fltE orE
  by_cases h : fltN (x :: ls) = 0
  · rw [if_pos h]
    rw [List.map_cons]
    show (if brE x = 0 then firstE (ls.map brE) else brE x) = 0 ↔ _
    by_cases hb : brE x = 0
    · rw [if_pos hb]; simp [h, hb]
    · rw [if_neg hb]; simp [hb]
  · rw [if_neg h]; simp [h]
theorem fltN_len {a b : List (Int × Int)} (h : a.length = b.length) : fltN a = fltN b := by
  unfold fltN; rw [h]
/-- a tap between two that are valid is valid. -/
theorem tap_mid {ls : List (Int × Int)} {T n : Int} (hf : fltE ls = 0) (hT : -8 ≤ T ∧ T ≤ 8) (hk : fltE (tapL ls 0 T) = 0) (hn : (0 ≤ n ∧ n ≤ T) ∨ (T ≤ n ∧ n ≤ 0)) : fltE (tapL ls 0 n) = 0 := by
  have fp := flt_parts hf
  match ls, fp with
  | [], fp => simp at fp
  | (a, c) :: ls, fp =>
    have hab := fp.2 (a, c) (by simp)
    simp only at hab
    have key : ∀ t : Int, -8 ≤ t ∧ t ≤ 8 → tapL ((a, c) :: ls) 0 t = (a + t, c) :: ls := fun t ht => by
      unfold tapL
      simp only [List.getElem?_cons_zero, Option.getD_some, List.set_cons_zero]
      rw [show wrap64 (a + t) = a + t by unfold wrap64; omega]
    rw [key T hT] at hk
    rw [key n (by omega)]
    rw [fltE_cons] at hf hk ⊢
    rw [brE_iff] at hf hk ⊢
    refine ⟨(fltN_len (a := (a + n, c) :: ls) (b := (a, c) :: ls) rfl).trans hf.1, ?_, hf.2.2⟩
    have h1 := hf.2.1
    have h2 := hk.2.1
    simp only at h1 h2 ⊢
    omega
theorem tapL_head {ls : List (Int × Int)} {n : Int} (hf : fltE ls = 0) (hn : -8 ≤ n ∧ n ≤ 8) : ∃ a c l, ls = (a, c) :: l ∧ tapL ls 0 n = (a + n, c) :: l ∧ 0 ≤ a ∧ a ≤ 50 := by
  have fp := flt_parts hf
  match ls, fp with
  | [], fp => simp at fp
  | (a, c) :: ls, fp =>
    have hab := fp.2 (a, c) (by simp)
    simp only at hab
    refine ⟨a, c, ls, rfl, ?_, hab⟩
    unfold tapL
    simp only [List.getElem?_cons_zero, Option.getD_some, List.set_cons_zero]
    rw [show wrap64 (a + n) = a + n by unfold wrap64; omega]
/-- the ramp's values. -/
theorem rmp_facts {t p : Int} (hok : OkT t p) (hs : ¬ t < szT p) (k : Int) (hk : 0 ≤ k) : ((0 ≤ rmpV t p k ∧ rmpV t p k ≤ p) ∨ (p ≤ rmpV t p k ∧ rmpV t p k ≤ 0)) ∧ (k ≤ t - szT p → rmpV t p k = 0) ∧ (t ≤ k → rmpV t p k = p) ∧ (-1 ≤ rmpV t p k - (if k = 0 then 0 else rmpV t p (k - 1)) ∧ rmpV t p k - (if k = 0 then 0 else rmpV t p (k - 1)) ≤ 1) := by
  obtain ⟨⟨h0, h1⟩, h2, h3⟩ := hok
  unfold rmpV rmpA szT at *
  refine ⟨?_, ?_, ?_, ?_⟩
  · repeat' split
    all_goals omega
  · repeat' split
    all_goals omega
  · repeat' split
    all_goals omega
  · repeat' split
    all_goals omega
end Go.Proofs.YtpkaoechbmbolaaGreatDoor

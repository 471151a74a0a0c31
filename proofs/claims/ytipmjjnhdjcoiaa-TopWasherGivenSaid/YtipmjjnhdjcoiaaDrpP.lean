/- The law TopWasherDroop: plain facts. -/
import Derived.Test.YtipmjjnhdjcoiaaDrpA
import Derived.Test.YtipmjjnhdjcoiaaLoopW
namespace Go.Proofs.Ytipmjjnhdjcoiaa
set_option linter.unusedSimpArgs false
set_option linter.unusedVariables false
open Go.RowKit

theorem drp_fin : ∀ (f : Fin 16) (D : Fin 21), 1 ≤ f.val → 1 ≤ D.val →
    closedR [(f.val : Int)] [-(D.val : Int), (D.val : Int)] [1] [1] = [(f.val : Int) - D.val, (D.val : Int)] ∧ checkLoopE [(f.val : Int)] [-(D.val : Int), (D.val : Int)] [1] [1] = 0 ∧
    checkPolyE [(f.val : Int) - D.val, (D.val : Int)] = 0 ∧ stableR [(f.val : Int) - D.val, (D.val : Int)] = decide ((f.val : Int) < 2 * (D.val : Int)) := by decide +kernel
theorem drp_loop {f D : Int} (hf : 1 ≤ f ∧ f ≤ 15) (hD : 1 ≤ D ∧ D ≤ 20) :
    closedR [f] [-D, D] [1] [1] = [f - D, D] ∧ checkLoopE [f] [-D, D] [1] [1] = 0 ∧ checkPolyE [f - D, D] = 0 ∧ stableR [f - D, D] = decide (f < 2 * D) := by
  have h := drp_fin ⟨f.toNat, by omega⟩ ⟨D.toNat, by omega⟩ (by show 1 ≤ f.toNat; omega) (by show 1 ≤ D.toNat; omega)
  simp only [Int.toNat_of_nonneg (show 0 ≤ f by omega), Int.toNat_of_nonneg (show 0 ≤ D by omega)] at h
  exact h
theorem drp_steps {q D dev : Int} (hc : checkPolyE [q, D] = 0) (hq : -100 ≤ q ∧ q ≤ 100) (hd : -1000 ≤ dev ∧ dev ≤ 1000) : steppedR [q, D] [dev] 1 = [dev, -(q * dev)] ∧ steppedE [q, D] [dev] 1 = 0 := by
  have hm := mulb (x := q) (y := dev) (A := 100) (B := 1000) hq hd
  have v0 : stepVal [q, D] [dev] [] 1 0 = dev := by
    simp [stepVal, powW]; unfold wrap64; omega
  have s1 := stepL_yes (p := [q, D]) (l := [dev]) (n := 1) (t := 0) (out := []) rfl (by rw [v0]; unfold inB; omega)
  rw [v0] at s1
  have v1 : stepVal [q, D] [dev] [dev] 1 1 = -(q * dev) := by
    simp [stepVal, stepIn, powW]
    generalize q * dev = m at hm
    unfold wrap64; omega
  have s2 := stepL_yes (p := [q, D]) (l := [dev]) (n := 1) (t := 1) (out := [dev]) s1 (by rw [v1]; generalize q * dev = m at hm; unfold inB; omega)
  rw [v1] at s2
  have h2 : step2E [q, D] [dev] 1 = 0 := by
    have hw : withinE dev (-1000) 1000 = 0 := by rw [withinE, if_neg (by omega)]
    have hc2 : checkFirstE [q, D] [dev] = 0 := by
      unfold checkFirstE
      rw [if_neg (by simp)]
      simp [firstE, hw]
    unfold step2E
    rw [hc2]
    rfl
  have hs : stepL [q, D] [dev] ([q, D].length - 1) ([q, D].length - 1 + (1 : Int).toNat) = some [dev, -(q * dev)] := s2
  constructor
  · rw [steppedR, if_neg (by rw [hc]; simp), if_neg (by rw [h2]; simp), hs]; rfl
  · rw [steppedE, if_neg (by rw [hc]; simp), if_neg (by rw [h2]; simp), hs]

theorem drpL_succ (l : List Int) (p0 p1 p2 : Int) (k : Nat) : drpL l p0 p1 p2 (k + 1) = drpL l p0 p1 p2 k ++ [(pow3 p0 p1 p2 k, 1 + l[k]?.getD 0 % 5)] := upto_succ _ _
theorem drpL_length (l : List Int) (p0 p1 p2 : Int) (k : Nat) : (drpL l p0 p1 p2 k).length = k := upto_length _ _
theorem fall_snoc (ls : List (Int × Int)) (x : Int × Int) : fallL (ls ++ [x]) = fallL ls + x.2 := by simp [fallL, List.sum_append]
theorem drpL_ok {l : List Int} {p0 p1 p2 : Int} (hl : 1 ≤ l.length ∧ l.length ≤ 3) (hl8 : ∀ a ∈ l, 0 ≤ a ∧ a ≤ 255) (hp : (-128 ≤ p0 ∧ p0 ≤ 127) ∧ (-128 ≤ p1 ∧ p1 ≤ 127) ∧ (-128 ≤ p2 ∧ p2 ≤ 127)) : LinesOk 100 (drpL l p0 p1 p2 l.length) := by
  refine ⟨by omega, by rw [drpL_length]; exact hl, fun x hx => ?_⟩
  simp only [drpL, upto, List.mem_map, List.mem_range] at hx
  obtain ⟨i, hi, rfl⟩ := hx
  have h1 : 0 ≤ l[i]?.getD 0 % 5 ∧ l[i]?.getD 0 % 5 < 5 := by omega
  have h2 : -128 ≤ pow3 p0 p1 p2 i ∧ pow3 p0 p1 p2 i ≤ 127 := by
    unfold pow3
    split <;> omega
  simp only
  omega
/-- what is added up by the law's first loop. -/
theorem drp_fall_bd {l : List Int} {p0 p1 p2 : Int} (k : Nat) : (k : Int) ≤ fallL (drpL l p0 p1 p2 k) ∧ fallL (drpL l p0 p1 p2 k) ≤ 5 * k := by
  induction k with
  | zero => simp [drpL, upto, fallL]
  | succ k ih =>
    rw [drpL_succ, fall_snoc]
    have h1 : 0 ≤ l[k]?.getD 0 % 5 ∧ l[k]?.getD 0 % 5 < 5 := by omega
    simp only
    omega
theorem drpL_take {l : List Int} {p0 p1 p2 : Int} {k n : Nat} (h : k ≤ n) : (drpL l p0 p1 p2 n).take k = drpL l p0 p1 p2 k := by
  unfold drpL upto
  rw [← List.map_take, List.take_range, Nat.min_eq_left h]

end Go.Proofs.Ytipmjjnhdjcoiaa

/- Plain facts of the strength, of the members of a box, and of the values at the quarters. -/
import Derived.Test.YtnlmaildmeihgaaGreatDoorMem
import Derived.Test.YtnlmaildmeihgaaGreatDoorRingE
namespace Go.Proofs.YtnlmaildmeihgaaGreatDoor
open Go.RowKit

theorem strL_ok {a b c d : List Int} (f : Nat) (n : Int) : strL a b c d f n = (0, 4) ∨ strL a b c d f n = (0, 7) ∨
    ∃ k, strL a b c d f n = (k, 0) ∧ n ≤ k ∧ k < n + f ∧ (∀ j, n ≤ j → j ≤ k → (strP a b c d j).any largeB = false ∧ stableB (strP a b c d j) = decide (j < k)) := by
  induction f generalizing n with
  | zero => exact .inr (.inl rfl)
  | succ f ih =>
    rw [strL]
    by_cases h1 : (strP a b c d n).any largeB = true
    · exact .inl (by rw [if_pos h1])
    · rw [if_neg h1]
      have h1' : (strP a b c d n).any largeB = false := by simpa using h1
      by_cases h2 : stableB (strP a b c d n) = true
      · rw [if_pos h2]
        rcases ih (n + 1) with h | h | ⟨k, h3, h4, h5, h6⟩
        · exact .inl h
        · exact .inr (.inl h)
        · refine .inr (.inr ⟨k, h3, by omega, by omega, fun j hj hk => ?_⟩)
          by_cases hjn : j = n
          · subst hjn
            exact ⟨h1', by rw [h2, decide_eq_true (by omega)]⟩
          · exact h6 j (by omega) hk
      · rw [if_neg h2]
        refine .inr (.inr ⟨n, rfl, by omega, by omega, fun j hj hk => ?_⟩)
        obtain rfl : j = n := by omega
        exact ⟨h1', by rw [Bool.eq_false_iff.2 h2, decide_eq_false (by omega)]⟩
theorem strength_ok {a b c d : List Int} (h : checkLoopE a b c d = 0) : strengthRE a b c d 20 = (0, 4) ∨ strengthRE a b c d 20 = (0, 7) ∨
    ∃ k : Nat, strengthRE a b c d 20 = ((k : Int), 0) ∧ 1 ≤ k ∧ k ≤ 20 ∧ (∀ j : Nat, 1 ≤ j → j ≤ k → (strP a b c d j).any largeB = false ∧ stableB (strP a b c d j) = decide (j < k)) := by
  have h0 : str1E a b c d 20 = 0 := by unfold str1E; rw [h]; rfl
  have h1 : strengthRE a b c d 20 = strL a b c d 20 1 := by rw [strengthRE, if_neg (by rw [h0]; simp)]; rfl
  rw [h1]
  rcases strL_ok (a := a) (b := b) (c := c) (d := d) 20 1 with h | h | ⟨k, h3, h4, h5, h6⟩
  · exact .inl h
  · exact .inr (.inl h)
  · refine .inr (.inr ⟨k.toNat, by rw [h3, Int.toNat_of_nonneg (by omega)], by omega, by omega, fun j hj hk => ?_⟩)
    obtain ⟨e1, e2⟩ := h6 j (by omega) (by omega)
    refine ⟨e1, e2.trans ?_⟩
    by_cases hjk : j < k.toNat
    · rw [decide_eq_true hjk, decide_eq_true (by omega)]
    · rw [decide_eq_false hjk, decide_eq_false (by omega)]
theorem factor_loop {a b c d : List Int} {k : Int} (h : checkLoopE a b c d = 0) (hp : checkPolyE (a.map fun x => wrap64 (k * x)) = 0) (hl : (strP a b c d k).any largeB = false) : checkLoopE (a.map fun x => wrap64 (k * x)) b c d = 0 := by
  obtain ⟨⟨_, hb, hc, hd⟩, h2⟩ := checkLoopE_all h
  obtain ⟨l1, l2, l3, l4, _⟩ := loop2E_ok h2
  exact checkLoopE_intro hp hb hc hd (loop2E_intro l1 l2 (by simpa using l3) l4 hl)
theorem loop_facts {a b c d : List Int} (h : checkLoopE a b c d = 0) : closedR a b c d = closedW a b c d ∧ checkPolyE (closedW a b c d) = 0 ∧ stableR (closedW a b c d) = stableB (closedW a b c d) := by
  have h1 := closed_poly h
  exact ⟨by rw [closedR, if_neg (by rw [h]; simp)], h1, by rw [stableR, if_neg (by rw [h1]; simp)]⟩
theorem quarter_value {cl : List Int} (h : checkPolyE cl = 0) (k : Nat) : valueE cl (quarterAt k).1 (quarterAt k).2 = 0 ∧ valueR cl (quarterAt k).1 (quarterAt k).2 = atW cl (quarterAt k).1 (quarterAt k).2 := by
  have hz : valueE cl (quarterAt k).1 (quarterAt k).2 = 0 ∧ ¬ ((quarterAt k).1 = 0 ∧ (quarterAt k).2 = 0) := by
    unfold valueE quarterAt
    rw [h]
    split
    all_goals exact ⟨by decide, by decide⟩
  exact ⟨hz.1, by rw [valueR, if_neg (by rw [hz.1]; simp), if_neg hz.2]⟩
theorem respRow_get (l : List Int) (k : Nat) (h : k < 4) : (respRow l 4)[k]? = some (respV l k) := by
  obtain rfl | rfl | rfl | rfl : k = 0 ∨ k = 1 ∨ k = 2 ∨ k = 3 := by omega
  all_goals rfl

end Go.Proofs.YtnlmaildmeihgaaGreatDoor

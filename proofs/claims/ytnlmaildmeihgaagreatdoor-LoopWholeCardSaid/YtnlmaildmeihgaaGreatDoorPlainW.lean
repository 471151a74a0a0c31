/- Plain facts of the law LoopWhole: a polynomial whose last coefficient is 1 or -1. -/
import Derived.Test.YtnlmaildmeihgaaGreatDoorMem
namespace Go.Proofs.YtnlmaildmeihgaaGreatDoor
open Go.RowKit

theorem failsB_unit (x : Int) (q : List Int) (s : Int) (hs : s = 1 ∨ s = -1) (hx : -1000 ≤ x ∧ x ≤ 1000) : failsB (x :: (q ++ [s])) = !(x == 0) := by
  have e1 : (x :: (q ++ [s]))[(x :: (q ++ [s])).length - 1]?.getD 0 = s := by
    simp only [List.length_cons, List.length_append, List.length_nil, Nat.zero_add, Nat.add_sub_cancel]
    rw [List.getElem?_cons_succ, List.getElem?_append_right (Nat.le_refl _)]
    simp
  have e2 : absW s = 1 := by unfold absW wrap64; omega
  have e3 : absW x = max x (-x) := by unfold absW wrap64; omega
  rw [failsB, e1, e2, show (x :: (q ++ [s]))[0]?.getD 0 = x from rfl, e3]
  by_cases h : x = 0
  · subst h; decide
  · rw [show (x == 0) = false by rw [beq_eq_false_iff_ne]; exact h]
    exact decide_eq_true (by omega)
theorem upto_ext {f g : Nat → Int} {n : Nat} (h : ∀ i, i < n → f i = g i) : upto f n = upto g n := by
  unfold upto
  exact List.map_congr_left fun i hi => h i (List.mem_range.1 hi)
theorem upto_mapD (f : Int → Int) (l : List Int) : upto (fun j => f (l[j]?.getD 0)) l.length = l.map f := by
  apply List.ext_getElem (by rw [upto_length, List.length_map])
  intro k h1 h2
  have hk : k < l.length := by rw [upto_length] at h1; exact h1
  simp [upto, List.getElem?_eq_getElem hk]
theorem nextL_unit (q : List Int) (s : Int) (hs : s = 1 ∨ s = -1) (hb : ∀ x ∈ q, -1000 ≤ x ∧ x ≤ 1000) : nextL (0 :: (q ++ [s])) = q.map (s * ·) ++ [1] := by
  have hr : ∀ i, i < (q ++ [s]).length → -1000 ≤ (q ++ [s])[i]?.getD 0 ∧ (q ++ [s])[i]?.getD 0 ≤ 1000 := by
    intro i hi
    rw [List.getElem?_eq_getElem hi]
    have := List.getElem_mem hi
    rcases List.mem_append.1 this with h | h
    · exact hb _ h
    · simp only [List.mem_singleton] at h
      simp only [Option.getD_some, h]; omega
  have e1 : (0 :: (q ++ [s]))[(0 :: (q ++ [s])).length - 1]?.getD 0 = s := by
    simp only [List.length_cons, List.length_append, List.length_nil, Nat.zero_add, Nat.add_sub_cancel]
    rw [List.getElem?_cons_succ, List.getElem?_append_right (Nat.le_refl _)]
    simp
  rw [nextL, show (0 :: (q ++ [s])).length - 1 = (q ++ [s]).length by simp]
  rw [upto_ext (g := fun j => s * (q ++ [s])[j]?.getD 0) (fun i hi => by
    have h2 := hr i hi
    rw [nextAt, e1, List.getElem?_cons_succ, show (0 :: (q ++ [s]))[0]?.getD 0 = 0 from rfl, Int.zero_mul]
    generalize (q ++ [s])[i]?.getD 0 = y at h2
    rcases hs with rfl | rfl
    · rw [Int.one_mul]; unfold wrap64; omega
    · rw [Int.neg_one_mul]; unfold wrap64; omega)]
  rw [upto_mapD (fun x => s * x) (q ++ [s]), List.map_append]
  rcases hs with rfl | rfl <;> rfl

theorem table_unit (f : Nat) : ∀ (q : List Int) (s : Int), (s = 1 ∨ s = -1) → (∀ x ∈ q, -1000 ≤ x ∧ x ≤ 1000) → q.length + 1 ≤ f → (tableL f (q ++ [s])).any failsB = !(q.all (· == 0)) := by
  induction f with
  | zero => intro q s _ _ h; omega
  | succ f ih =>
    intro q s hs hb hl
    cases q with
    | nil => rfl
    | cons x q =>
      have hF := failsB_unit x q s hs (hb x (by simp))
      rw [List.cons_append, tableL, if_neg (by simp), hF]
      by_cases h0 : x = 0
      · subst h0
        rw [if_neg (by decide), List.any_cons, hF, nextL_unit q s hs (fun y hy => hb y (by simp [hy])), ih (q.map (s * ·)) 1 (.inl rfl)
          (fun y hy => by
            obtain ⟨z, hz, rfl⟩ := List.mem_map.1 hy
            have := hb z (by simp [hz])
            rcases hs with rfl | rfl <;> omega) (by simp at hl ⊢; omega)]
        have : (q.map (s * ·)).all (· == 0) = q.all (· == 0) := by
          rw [List.all_map]
          congr 1
          funext z
          simp only [Function.comp]
          rcases hs with rfl | rfl
          · rw [Int.one_mul]
          · rw [Bool.eq_iff_iff]; simp
        rw [this]
        simp
      · have hx : (x == 0) = false := by rw [beq_eq_false_iff_ne]; exact h0
        rw [hx, if_pos (by decide)]
        simp [hF, hx]
/-- it is stable exactly if all others are 0. -/
theorem stable_unit (q : List Int) (s : Int) (hs : s = 1 ∨ s = -1) (hb : ∀ x ∈ q, -1000 ≤ x ∧ x ≤ 1000) : stableB (q ++ [s]) = q.all (· == 0) := by
  rw [stableB, tableW, table_unit _ q s hs hb (by simp), Bool.not_not]

theorem unit_poly (q : List Int) (s : Int) (hs : s = 1 ∨ s = -1) (hb : ∀ x ∈ q, -100 ≤ x ∧ x ≤ 100) (hl : q.length ≤ 4) : checkPolyE (q ++ [s]) = 0 := by
  refine checkPolyE_intro (by simp) (by simp; omega) (fun x hx => ?_) ?_
  · rcases List.mem_append.1 hx with h | h
    · exact hb x h
    · simp only [List.mem_singleton] at h; omega
  · simp only [List.length_append, List.length_cons, List.length_nil, Nat.zero_add, Nat.add_sub_cancel]
    rw [List.getElem?_append_right (Nat.le_refl _)]
    simp; omega

theorem powW_unit (s : Int) (hs : s = 1 ∨ s = -1) (k : Nat) : powW s k = 1 ∨ powW s k = -1 := by
  induction k with
  | zero => exact .inl rfl
  | succ k ih =>
    rw [powW]
    rcases hs with rfl | rfl <;> rcases ih with h | h <;> rw [h] <;> unfold wrap64 <;> omega
theorem stepIn_zero (p out : List Int) (n t : Nat) (k : Nat) (h : ∀ i, i < k → p[i]?.getD 0 = 0) : stepIn p out n t k = 0 := by
  induction k with
  | zero => rfl
  | succ k ih =>
    rw [stepIn, ih (fun i hi => h i (by omega)), h k (by omega), Int.zero_mul]
    have : wrap64 0 = 0 := by unfold wrap64; omega
    rw [this, Int.zero_mul, this, Int.sub_zero, this]
/-- all further steps are 0. -/
theorem step_unit (q l : List Int) (s : Int) (hs : s = 1 ∨ s = -1) (hz : ∀ i, i < q.length → q[i]?.getD 0 = 0) (hl : ∀ x ∈ l, -1000 ≤ x ∧ x ≤ 1000) (t : Nat) :
    ∃ out, stepL (q ++ [s]) l q.length t = some out ∧ out.length = t ∧ ∀ j, q.length ≤ j → out[j]?.getD 0 = 0 := by
  induction t with
  | zero => exact ⟨[], rfl, rfl, fun j _ => rfl⟩
  | succ t ih =>
    obtain ⟨out, h1, h2, h3⟩ := ih
    have hv : (t < q.length ∨ stepVal (q ++ [s]) l out q.length t = 0) ∧ inB (stepVal (q ++ [s]) l out q.length t) := by
      unfold stepVal
      split
      · refine ⟨.inl (by assumption), ?_⟩
        have hx : -1000 ≤ l[t]?.getD 0 ∧ l[t]?.getD 0 ≤ 1000 := by
          cases hq : l[t]? with
          | none => simp
          | some x => exact hl x (List.mem_of_getElem? hq)
        rw [List.getElem?_append_right (Nat.le_refl _), Nat.sub_self]
        have hp := powW_unit s hs t
        simp only [List.getElem?_cons_zero, Option.getD_some]
        generalize l[t]?.getD 0 = x at hx
        unfold inB wrap64
        rcases hp with h | h <;> rw [h] <;> omega
      · rw [stepIn_zero _ _ _ _ _ (fun i hi => by rw [List.getElem?_append_left hi]; exact hz i hi)]
        exact ⟨.inr rfl, by decide⟩
    refine ⟨_, stepL_yes h1 hv.2, by simp [h2], fun j hj => ?_⟩
    rcases Nat.lt_or_ge j t with h | h
    · rw [List.getElem?_append_left (by omega)]; exact h3 j hj
    · rw [List.getElem?_append_right (by omega), h2]
      rcases Nat.lt_or_ge t j with h4 | h4
      · rw [List.getElem?_eq_none (by simp; omega)]; rfl
      · obtain rfl : t = j := by omega
        rw [Nat.sub_self]
        rcases hv.1 with h5 | h5
        · omega
        · simpa using h5
theorem stepped_unit (q l : List Int) (s : Int) (hs : s = 1 ∨ s = -1) (h1 : 1 ≤ q.length) (h4 : q.length ≤ 4) (hlen : l.length = q.length) (hz : ∀ i, i < q.length → q[i]?.getD 0 = 0) (hl : ∀ x ∈ l, -1000 ≤ x ∧ x ≤ 1000) :
    steppedE (q ++ [s]) l 6 = 0 ∧ (steppedR (q ++ [s]) l 6).length = q.length + 6 ∧ ∀ j, q.length ≤ j → (steppedR (q ++ [s]) l 6)[j]?.getD 0 = 0 := by
  have hb : ∀ x ∈ q, -100 ≤ x ∧ x ≤ 100 := fun x hx => by
    obtain ⟨i, hi, rfl⟩ := List.getElem_of_mem hx
    have := hz i hi
    rw [List.getElem?_eq_getElem hi] at this
    simp at this; omega
  have hp := unit_poly q s hs hb h4
  have hn : (q ++ [s]).length - 1 = q.length := by simp
  have e2 : step2E (q ++ [s]) l 6 = 0 := by
    unfold step2E
    rw [hn]
    refine firstE_zero fun x hx => ?_
    simp only [List.mem_cons, List.not_mem_nil, or_false] at hx
    rcases hx with rfl | rfl | rfl
    · rw [show ((q.length : Int) == 0) = false by rw [beq_eq_false_iff_ne]; omega]; rfl
    · unfold checkFirstE
      rw [if_neg (by simp; omega)]
      refine firstE_zero fun y hy => ?_
      obtain ⟨z, hz, rfl⟩ := List.mem_map.1 hy
      have := hl z hz
      rw [withinE, if_neg (by omega)]
    · decide
  obtain ⟨out, o1, o2, o3⟩ := step_unit q l s hs hz hl (q.length + (6 : Int).toNat)
  have hR : steppedR (q ++ [s]) l 6 = out := by
    rw [steppedR, if_neg (by rw [hp]; simp), if_neg (by rw [e2]; simp), hn, o1]; rfl
  have hE : steppedE (q ++ [s]) l 6 = 0 := by
    rw [steppedE, if_neg (by rw [hp]; simp), if_neg (by rw [e2]; simp), hn, o1]
  rw [hR]
  exact ⟨hE, o2, o3⟩

end Go.Proofs.YtnlmaildmeihgaaGreatDoor

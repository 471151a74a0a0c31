/- Plain facts: a loop of one pole is certified just where its steps fall. -/
import Derived.Test.YtnlmaildmeihgaaWashCertA
namespace Go.Proofs.Ytnlmaildmeihgaa
open Go.RowKit

def fallsC (den c : Int) : Bool := decide (max c (-c) < den)

structure CP (den pole num low high : Int) : Prop where
  hden : 1 ≤ den ∧ den ≤ 9
  hpole : -9 ≤ pole ∧ pole ≤ 9
  hnum : 1 ≤ num ∧ num ≤ 3
  hlow : 1 ≤ low ∧ low ≤ 12
  hhigh : low ≤ high ∧ high ≤ low + 7

theorem CP.fact {den pole num low high g : Int} (h : CP den pole num low high) (hg : low ≤ g ∧ g ≤ high) :
    checkLoopE [g] [-pole, den] [num] [1] = 0 ∧ closedW [g] [-pole, den] [num] [1] = [g * num - pole, den] ∧ checkPolyE [g * num - pole, den] = 0 ∧ ([g * num - pole, den].any largeB) = false ∧ stableB [g * num - pole, den] = fallsC den (g * num - pole) ∧ -70 ≤ g * num - pole ∧ g * num - pole ≤ 70 := by
  have h1 := h.hlow
  have h2 := h.hhigh
  have hf := cFact_of h.hden h.hpole h.hnum (g := g) (by omega)
  simp only [cFact, Bool.and_eq_true, beq_iff_eq, Bool.not_eq_true', decide_eq_true_eq] at hf
  obtain ⟨⟨⟨⟨⟨f1, f2⟩, f3⟩, f4⟩, f5⟩, f6, f7⟩ := hf
  exact ⟨f1, f2, f3, f4, f5, f6, f7⟩

theorem membersW_one (lo hi : Int) : membersW [(lo, hi)] = (span lo hi).map fun n => [n] := by
  simp only [membersW, List.map_cons, List.map_nil]
  induction span lo hi with
  | nil => rfl
  | cons x l ih => simp [ih]
theorem mem_span {lo hi n : Int} : n ∈ span lo hi ↔ lo ≤ n ∧ n ≤ hi := by
  unfold span upto
  simp only [List.mem_map, List.mem_range]
  constructor
  · rintro ⟨k, hk, rfl⟩; omega
  · intro h; exact ⟨(n - lo).toNat, by omega, by omega⟩

theorem CP.box {den pole num low high : Int} (h : CP den pole num low high) : checkBoxE [low] [-pole, den] [num] [1] [(low, high)] = 0 := by
  have h1 := h.hlow
  have h2 := h.hhigh
  have hf := h.fact (g := low) (by omega)
  have w1 : coefE low = 0 := by unfold coefE withinE; rw [if_neg (by omega)]
  have w2 : coefE high = 0 := by unfold coefE withinE; rw [if_neg (by omega)]
  have w3 : decide (high < low) = false := by simp; omega
  have b1 : box1E [low] [-pole, den] [num] [1] [(low, high)] = 0 := by
    simp [box1E, hf.1, firstE, whenE, intervalsE, boxE, w1, w2, w3]
  have b2 : box2E [(low, high)] = 0 := by
    have m1 : manyW [(low, high)] 1 = high - low + 1 := by
      simp only [manyW, List.getElem?_cons_zero, Option.getD_some]
      rw [w64 (high - low) (by omega), w64 (high - low + 1) (by omega), Int.one_mul, w64 _ (by omega)]
    have m2 : decide (256 < manyW [(low, high)] 1) = false := by rw [m1]; simp; omega
    have m3 : decide ((lastP [(low, high)]).1 ≤ 0 ∧ 0 ≤ (lastP [(low, high)]).2) = false := by simp [lastP]; omega
    simp only [box2E, m3, List.length_cons, List.length_nil, Nat.zero_add, m2]
    rfl
  have b3 : ((membersW [(low, high)]).any fun p => (closedW p [-pole, den] [num] [1]).any largeB) = false := by
    rw [List.any_eq_false]
    intro p hp
    rw [membersW_one] at hp
    obtain ⟨n, hn, rfl⟩ := List.mem_map.1 hp
    have hf := h.fact (mem_span.1 hn)
    rw [hf.2.1, hf.2.2.2.1]; simp
  rw [checkBoxE, if_neg (by rw [b1]; simp), if_neg (by rw [b2]; simp), b3]; rfl

theorem span_split {lo hi m : Int} (h1 : lo ≤ m) (h2 : m ≤ hi) : ∃ t, span lo hi = span lo (m - 1) ++ m :: t := by
  refine ⟨(List.range' ((m - lo).toNat + 1) (hi - m).toNat).map fun k : Nat => lo + k, ?_⟩
  unfold span upto
  rw [show (hi + 1 - lo).toNat = (m - 1 + 1 - lo).toNat + (1 + (hi - m).toNat) from by omega, List.range_eq_range', List.range_eq_range', ← List.range'_append_1, List.map_append, ← List.range'_append_1]
  simp
  omega

theorem CP.cert {den pole num low high : Int} (h : CP den pole num low high) :
    (certR [low] [-pole, den] [num] [1] [(low, high)] = none ∧ ∀ g, low ≤ g → g ≤ high → fallsC den (g * num - pole) = true) ∨
    (∃ m, certR [low] [-pole, den] [num] [1] [(low, high)] = some [m] ∧ low ≤ m ∧ m ≤ high ∧ fallsC den (m * num - pole) = false ∧ ∀ g, low ≤ g → g < m → fallsC den (g * num - pole) = true) := by
  have hR : certR [low] [-pole, den] [num] [1] [(low, high)] = certW [-pole, den] [num] [1] [(low, high)] := by rw [certR, if_neg (by rw [h.box]; simp)]
  rw [hR, certW, membersW_one, List.find?_map]
  have hg : ∀ g, g ∈ span low high → ((fun p => !stableB (closedW p [-pole, den] [num] [1])) ∘ fun n => [n]) g = !fallsC den (g * num - pole) := fun g hg => by
    have hf := h.fact (mem_span.1 hg)
    simp only [Function.comp, hf.2.1, hf.2.2.2.2.1]
  cases hq : (span low high).find? ((fun p => !stableB (closedW p [-pole, den] [num] [1])) ∘ fun n => [n]) with
  | none =>
    refine .inl ⟨rfl, fun g h1 h2 => ?_⟩
    have hm := mem_span.2 ⟨h1, h2⟩
    have := List.find?_eq_none.1 hq g hm
    rw [hg g hm] at this
    simpa using this
  | some m =>
    have hm := List.mem_of_find?_eq_some hq
    have hp := List.find?_some hq
    rw [hg m hm] at hp
    obtain ⟨h1, h2⟩ := mem_span.1 hm
    refine .inr ⟨m, rfl, h1, h2, by simpa using hp, fun g h3 h4 => ?_⟩
    have hgm := mem_span.2 ⟨h3, (show g ≤ high by omega)⟩
    cases hc : fallsC den (g * num - pole) with
    | true => rfl
    | false =>
      exfalso
      obtain ⟨t, ht⟩ := span_split (lo := low) (hi := high) (m := g) h3 (by omega)
      rw [ht, List.find?_append] at hq
      have hgx := hg g hgm
      rw [hc] at hgx
      cases hx : (span low (g - 1)).find? ((fun p => !stableB (closedW p [-pole, den] [num] [1])) ∘ fun n => [n]) with
      | none =>
        rw [hx] at hq
        simp only [Option.none_or, List.find?_cons, hgx] at hq
        simp at hq
        omega
      | some y =>
        rw [hx] at hq
        have := mem_span.1 (List.mem_of_find?_eq_some hx)
        simp at hq
        omega

theorem steps_or (c den x : Int) (hc : -70 ≤ c ∧ c ≤ 70) (hx : 1 ≤ x ∧ x ≤ 200) : ∀ t, (stepL [c, den] [x] 1 t = some (geo x (-c) t) ∧ ∀ i, i < t → inB (x * (-c) ^ i)) ∨ stepL [c, den] [x] 1 t = none := by
  intro t
  induction t with
  | zero => exact .inl ⟨rfl, fun i h => by omega⟩
  | succ t ih =>
    rcases ih with ⟨h1, h2⟩ | h1
    · have hv : stepVal [c, den] [x] (geo x (-c) t) 1 t = x * (-c) ^ t := by
        cases t with
        | zero =>
          simp [stepVal, powW]
          exact w64 x (by omega)
        | succ t =>
          have hb := h2 t (by omega)
          have e2 : stepIn [c, den] (geo x (-c) (t + 1)) 1 (t + 1) 1 = wrap64 (0 - wrap64 (wrap64 (c * (x * (-c) ^ t)) * 1)) := by
            simp only [stepIn, powW, List.getElem?_cons_zero, Option.getD_some]
            rw [show t + 1 - 1 + 0 = t from by omega, geo_get _ _ _ _ (by omega)]
            rfl
          have e1 : x * (-c) ^ (t + 1) = -(c * (x * (-c) ^ t)) := by rw [Int.pow_succ]; grind
          rw [stepVal, if_neg (by omega), e2, e1]
          generalize x * (-c) ^ t = y at hb
          unfold inB at hb
          have hy : (c * y).natAbs ≤ 70 * 1073741824 := by rw [Int.natAbs_mul]; exact Nat.mul_le_mul (by omega) (by omega)
          generalize c * y = z at hy
          rw [w64 z (by omega), Int.mul_one, w64 z (by omega), w64 _ (by omega)]
          omega
      by_cases hb : inB (x * (-c) ^ t)
      · refine .inl ⟨by rw [stepL_yes h1 (by rw [hv]; exact hb), hv, geo_succ], fun i hi => ?_⟩
        rcases Nat.lt_or_ge i t with h | h
        · exact h2 i h
        · obtain rfl : i = t := by omega
          exact hb
      · exact .inr (stepL_no h1 (by rw [hv]; exact hb))
    · exact .inr (stepL_none h1 (by omega))

theorem falls_step (c den x : Int) (h0 : x ≠ 0) : decide (max (-c * x) (-(-c * x)) < den * max x (-x)) = fallsC den c := by
  unfold fallsC
  have e : ∀ y : Int, max y (-y) = (y.natAbs : Int) := fun y => by omega
  rw [e, e, e, Int.natAbs_mul, Int.natAbs_neg, Int.natCast_mul]
  have hx : (0 : Int) < (x.natAbs : Int) := by omega
  congr 1
  rw [eq_iff_iff]
  constructor
  · intro h; exact Int.lt_of_mul_lt_mul_right h (Int.le_of_lt hx)
  · intro h; exact Int.mul_lt_mul_of_pos_right h hx

end Go.Proofs.Ytnlmaildmeihgaa

/- Plain facts of the law LoopSums: values of sums and products, and steps. -/
import Derived.Test.YtnlmaildmeihgaaGreatDoorMem
import Derived.Test.YtnlmaildmeihgaaGreatDoorLawPly
namespace Go.Proofs.YtnlmaildmeihgaaGreatDoor
open Go.RowKit
set_option linter.unusedSimpArgs false
set_option linter.unusedVariables false

theorem wrap64_small {x : Int} (h : -4611686018427387904 ≤ x ∧ x ≤ 4611686018427387904) : wrap64 x = x := by unfold wrap64; omega
theorem mulb {x y A B : Int} (hx : -A ≤ x ∧ x ≤ A) (hy : -B ≤ y ∧ y ≤ B) : -(A * B) ≤ x * y ∧ x * y ≤ A * B := by
  have h : (x * y).natAbs ≤ A.natAbs * B.natAbs := by rw [Int.natAbs_mul]; exact Nat.mul_le_mul (by omega) (by omega)
  have e : ((A.natAbs * B.natAbs : Nat) : Int) = A * B := by rw [Int.natCast_mul, Int.natAbs_of_nonneg (by omega), Int.natAbs_of_nonneg (by omega)]
  have := Int.ofNat_le.2 h
  rw [e] at this
  omega

theorem atW_hor (p : List Int) (zr zi : Int) (h : 1 ≤ p.length) : atW p zr zi = (wrap64 (hor zr zi p).1, wrap64 (hor zr zi p).2) := by
  obtain ⟨h1, h2⟩ := at_hor p zr zi p.length (Nat.le_refl _)
  rw [Nat.sub_self, List.drop_zero] at h1 h2
  have e : atW p zr zi = (upto (bwd p) p.length).foldl (atStep zr zi) (0, 0) := rfl
  rw [← e] at h1 h2
  obtain ⟨n, hn⟩ : ∃ n, p.length = n + 1 := ⟨p.length - 1, by omega⟩
  have hw : ∃ x y, atW p zr zi = (wrap64 x, wrap64 y) := by
    unfold atW
    rw [hn, upto_succ, atStep_snoc]
    exact ⟨_, _, rfl⟩
  obtain ⟨x, y, hw⟩ := hw
  have g1 := h1.eq
  have g2 := h2.eq
  rw [hw] at g1 g2 ⊢
  simp only [wrap64_idem] at g1 g2
  rw [g1, g2]

theorem hor_snoc0 (zr zi : Int) (l : List Int) : hor zr zi (l ++ [0]) = hor zr zi l := by
  induction l with
  | nil => simp [hor]
  | cons x l ih => simp only [List.cons_append, hor, ih]
theorem hor_take (zr zi : Int) (l : List Int) (m : Nat) : hor zr zi (l.take (trimN l m)) = hor zr zi (l.take m) := by
  induction m with
  | zero => rfl
  | succ m ih =>
    unfold trimN
    split
    · rename_i h
      rw [ih]
      cases hq : l[m]? with
      | none =>
        have := List.getElem?_eq_none_iff.1 hq
        rw [List.take_of_length_le (by omega), List.take_of_length_le (by omega)]
      | some x =>
        rw [hq] at h
        simp only [Option.getD_some] at h
        rw [List.take_add_one, hq, h]
        exact (hor_snoc0 zr zi _).symm
    · rfl
theorem hor_trim (zr zi : Int) (l : List Int) : hor zr zi (trimL l) = hor zr zi l := by rw [trimL, hor_take, List.take_length]

/-- coefficients up to 7. -/
def Sm (x : Int) : Prop := -7 ≤ x ∧ x ≤ 7
theorem Sm.mul {x y : Int} (hx : Sm x) (hy : Sm y) : -49 ≤ x * y ∧ x * y ≤ 49 := mulb (A := 7) (B := 7) hx hy

theorem hor_times {zr zi : Int} {p q : List Int} (hp1 : 1 ≤ p.length) (hp3 : p.length ≤ 3) (hq1 : 1 ≤ q.length) (hq3 : q.length ≤ 3) (hp : ∀ x ∈ p, Sm x) (hq : ∀ x ∈ q, Sm x) :
    (hor zr zi (timesW p q)).1 = (hor zr zi p).1 * (hor zr zi q).1 - (hor zr zi p).2 * (hor zr zi q).2 ∧ (hor zr zi (timesW p q)).2 = (hor zr zi p).1 * (hor zr zi q).2 + (hor zr zi p).2 * (hor zr zi q).1 := by
  have w0 : ∀ x : Int, -1000 ≤ x ∧ x ≤ 1000 → wrap64 x = x := fun x h => by unfold wrap64; omega
  match p, hp1, hp3, hp with
  | [a0], _, _, hp =>
    have A0 := hp a0 (by simp)
    match q, hq1, hq3, hq with
    | [b0], _, _, hq =>
      have B0 := hq b0 (by simp)
      have m00 := A0.mul B0
      simp [timesW, tOuter, tInner, List.replicate, hor]
      rw [w0 (a0 * b0) (by omega), w0 _ (by omega)]
    | [b0, b1], _, _, hq =>
      have B0 := hq b0 (by simp)
      have B1 := hq b1 (by simp)
      have m00 := A0.mul B0
      have m01 := A0.mul B1
      simp [timesW, tOuter, tInner, List.replicate, hor]
      rw [w0 (a0 * b0) (by omega), w0 (a0 * b1) (by omega), w0 (a0 * b0) (by omega), w0 (a0 * b1) (by omega)]
      constructor <;> grind
    | [b0, b1, b2], _, _, hq =>
      have B0 := hq b0 (by simp)
      have B1 := hq b1 (by simp)
      have B2 := hq b2 (by simp)
      have m00 := A0.mul B0
      have m01 := A0.mul B1
      have m02 := A0.mul B2
      simp [timesW, tOuter, tInner, List.replicate, hor]
      simp (disch := omega) only [w0]
      constructor <;> grind
  | [a0, a1], _, _, hp =>
    have A0 := hp a0 (by simp)
    have A1 := hp a1 (by simp)
    match q, hq1, hq3, hq with
    | [b0], _, _, hq =>
      have B0 := hq b0 (by simp)
      have m00 := A0.mul B0
      have m10 := A1.mul B0
      simp [timesW, tOuter, tInner, List.replicate, hor]
      simp (disch := omega) only [w0]
      constructor <;> grind
    | [b0, b1], _, _, hq =>
      have B0 := hq b0 (by simp)
      have B1 := hq b1 (by simp)
      have m00 := A0.mul B0
      have m01 := A0.mul B1
      have m10 := A1.mul B0
      have m11 := A1.mul B1
      simp [timesW, tOuter, tInner, List.replicate, hor]
      simp (disch := omega) only [w0]
      constructor <;> grind
    | [b0, b1, b2], _, _, hq =>
      have B0 := hq b0 (by simp)
      have B1 := hq b1 (by simp)
      have B2 := hq b2 (by simp)
      have m00 := A0.mul B0
      have m01 := A0.mul B1
      have m02 := A0.mul B2
      have m10 := A1.mul B0
      have m11 := A1.mul B1
      have m12 := A1.mul B2
      simp [timesW, tOuter, tInner, List.replicate, hor]
      simp (disch := omega) only [w0]
      constructor <;> grind
  | [a0, a1, a2], _, _, hp =>
    have A0 := hp a0 (by simp)
    have A1 := hp a1 (by simp)
    have A2 := hp a2 (by simp)
    match q, hq1, hq3, hq with
    | [b0], _, _, hq =>
      have B0 := hq b0 (by simp)
      have m00 := A0.mul B0
      have m10 := A1.mul B0
      have m20 := A2.mul B0
      simp [timesW, tOuter, tInner, List.replicate, hor]
      simp (disch := omega) only [w0]
      constructor <;> grind
    | [b0, b1], _, _, hq =>
      have B0 := hq b0 (by simp)
      have B1 := hq b1 (by simp)
      have m00 := A0.mul B0
      have m01 := A0.mul B1
      have m10 := A1.mul B0
      have m11 := A1.mul B1
      have m20 := A2.mul B0
      have m21 := A2.mul B1
      simp [timesW, tOuter, tInner, List.replicate, hor]
      simp (disch := omega) only [w0]
      constructor <;> grind
    | [b0, b1, b2], _, _, hq =>
      have B0 := hq b0 (by simp)
      have B1 := hq b1 (by simp)
      have B2 := hq b2 (by simp)
      have m00 := A0.mul B0
      have m01 := A0.mul B1
      have m02 := A0.mul B2
      have m10 := A1.mul B0
      have m11 := A1.mul B1
      have m12 := A1.mul B2
      have m20 := A2.mul B0
      have m21 := A2.mul B1
      have m22 := A2.mul B2
      simp [timesW, tOuter, tInner, List.replicate, hor]
      simp (disch := omega) only [w0]
      constructor <;> grind

theorem sumW_small {p q : List Int} (hp1 : 1 ≤ p.length) (hp3 : p.length ≤ 3) (hq1 : 1 ≤ q.length) (hq3 : q.length ≤ 3) (hp : ∀ x ∈ p, Sm x) (hq : ∀ x ∈ q, Sm x) :
    (∀ x ∈ sumW p q, -14 ≤ x ∧ x ≤ 14) ∧ ∀ zr zi : Int, (hor zr zi (sumW p q)).1 = (hor zr zi p).1 + (hor zr zi q).1 ∧ (hor zr zi (sumW p q)).2 = (hor zr zi p).2 + (hor zr zi q).2 := by
  have w0 : ∀ x : Int, -1000 ≤ x ∧ x ≤ 1000 → wrap64 x = x := fun x h => by unfold wrap64; omega
  match p, hp1, hp3, hp with
  | [a0], _, _, hp =>
    have A0 := hp a0 (by simp)
    unfold Sm at A0
    match q, hq1, hq3, hq with
    | [b0], _, _, hq =>
      have B0 := hq b0 (by simp)
      unfold Sm at B0
      simp only [sumW, pInner, List.replicate, hor, List.length_cons, List.length_nil, List.set, List.getElem?_cons_zero, List.getElem?_cons_succ, Option.getD_some, List.cons_append, List.nil_append, Nat.reduceAdd, Nat.reduceSub, Nat.reduceLeDiff, Nat.max_def, if_true, if_false, List.append_nil, List.mem_cons, List.not_mem_nil, or_false, forall_eq_or_imp, forall_eq]
      simp (disch := omega) only [w0]
      exact ⟨by omega, fun zr zi => by constructor <;> grind⟩
    | [b0, b1], _, _, hq =>
      have B0 := hq b0 (by simp)
      have B1 := hq b1 (by simp)
      unfold Sm at B0 B1
      simp only [sumW, pInner, List.replicate, hor, List.length_cons, List.length_nil, List.set, List.getElem?_cons_zero, List.getElem?_cons_succ, Option.getD_some, List.cons_append, List.nil_append, Nat.reduceAdd, Nat.reduceSub, Nat.reduceLeDiff, Nat.max_def, if_true, if_false, List.append_nil, List.mem_cons, List.not_mem_nil, or_false, forall_eq_or_imp, forall_eq]
      simp (disch := omega) only [w0]
      exact ⟨by omega, fun zr zi => by constructor <;> grind⟩
    | [b0, b1, b2], _, _, hq =>
      have B0 := hq b0 (by simp)
      have B1 := hq b1 (by simp)
      have B2 := hq b2 (by simp)
      unfold Sm at B0 B1 B2
      simp only [sumW, pInner, List.replicate, hor, List.length_cons, List.length_nil, List.set, List.getElem?_cons_zero, List.getElem?_cons_succ, Option.getD_some, List.cons_append, List.nil_append, Nat.reduceAdd, Nat.reduceSub, Nat.reduceLeDiff, Nat.max_def, if_true, if_false, List.append_nil, List.mem_cons, List.not_mem_nil, or_false, forall_eq_or_imp, forall_eq]
      simp (disch := omega) only [w0]
      exact ⟨by omega, fun zr zi => by constructor <;> grind⟩
  | [a0, a1], _, _, hp =>
    have A0 := hp a0 (by simp)
    have A1 := hp a1 (by simp)
    unfold Sm at A0 A1
    match q, hq1, hq3, hq with
    | [b0], _, _, hq =>
      have B0 := hq b0 (by simp)
      unfold Sm at B0
      simp only [sumW, pInner, List.replicate, hor, List.length_cons, List.length_nil, List.set, List.getElem?_cons_zero, List.getElem?_cons_succ, Option.getD_some, List.cons_append, List.nil_append, Nat.reduceAdd, Nat.reduceSub, Nat.reduceLeDiff, Nat.max_def, if_true, if_false, List.append_nil, List.mem_cons, List.not_mem_nil, or_false, forall_eq_or_imp, forall_eq]
      simp (disch := omega) only [w0]
      exact ⟨by omega, fun zr zi => by constructor <;> grind⟩
    | [b0, b1], _, _, hq =>
      have B0 := hq b0 (by simp)
      have B1 := hq b1 (by simp)
      unfold Sm at B0 B1
      simp only [sumW, pInner, List.replicate, hor, List.length_cons, List.length_nil, List.set, List.getElem?_cons_zero, List.getElem?_cons_succ, Option.getD_some, List.cons_append, List.nil_append, Nat.reduceAdd, Nat.reduceSub, Nat.reduceLeDiff, Nat.max_def, if_true, if_false, List.append_nil, List.mem_cons, List.not_mem_nil, or_false, forall_eq_or_imp, forall_eq]
      simp (disch := omega) only [w0]
      exact ⟨by omega, fun zr zi => by constructor <;> grind⟩
    | [b0, b1, b2], _, _, hq =>
      have B0 := hq b0 (by simp)
      have B1 := hq b1 (by simp)
      have B2 := hq b2 (by simp)
      unfold Sm at B0 B1 B2
      simp only [sumW, pInner, List.replicate, hor, List.length_cons, List.length_nil, List.set, List.getElem?_cons_zero, List.getElem?_cons_succ, Option.getD_some, List.cons_append, List.nil_append, Nat.reduceAdd, Nat.reduceSub, Nat.reduceLeDiff, Nat.max_def, if_true, if_false, List.append_nil, List.mem_cons, List.not_mem_nil, or_false, forall_eq_or_imp, forall_eq]
      simp (disch := omega) only [w0]
      exact ⟨by omega, fun zr zi => by constructor <;> grind⟩
  | [a0, a1, a2], _, _, hp =>
    have A0 := hp a0 (by simp)
    have A1 := hp a1 (by simp)
    have A2 := hp a2 (by simp)
    unfold Sm at A0 A1 A2
    match q, hq1, hq3, hq with
    | [b0], _, _, hq =>
      have B0 := hq b0 (by simp)
      unfold Sm at B0
      simp only [sumW, pInner, List.replicate, hor, List.length_cons, List.length_nil, List.set, List.getElem?_cons_zero, List.getElem?_cons_succ, Option.getD_some, List.cons_append, List.nil_append, Nat.reduceAdd, Nat.reduceSub, Nat.reduceLeDiff, Nat.max_def, if_true, if_false, List.append_nil, List.mem_cons, List.not_mem_nil, or_false, forall_eq_or_imp, forall_eq]
      simp (disch := omega) only [w0]
      exact ⟨by omega, fun zr zi => by constructor <;> grind⟩
    | [b0, b1], _, _, hq =>
      have B0 := hq b0 (by simp)
      have B1 := hq b1 (by simp)
      unfold Sm at B0 B1
      simp only [sumW, pInner, List.replicate, hor, List.length_cons, List.length_nil, List.set, List.getElem?_cons_zero, List.getElem?_cons_succ, Option.getD_some, List.cons_append, List.nil_append, Nat.reduceAdd, Nat.reduceSub, Nat.reduceLeDiff, Nat.max_def, if_true, if_false, List.append_nil, List.mem_cons, List.not_mem_nil, or_false, forall_eq_or_imp, forall_eq]
      simp (disch := omega) only [w0]
      exact ⟨by omega, fun zr zi => by constructor <;> grind⟩
    | [b0, b1, b2], _, _, hq =>
      have B0 := hq b0 (by simp)
      have B1 := hq b1 (by simp)
      have B2 := hq b2 (by simp)
      unfold Sm at B0 B1 B2
      simp only [sumW, pInner, List.replicate, hor, List.length_cons, List.length_nil, List.set, List.getElem?_cons_zero, List.getElem?_cons_succ, Option.getD_some, List.cons_append, List.nil_append, Nat.reduceAdd, Nat.reduceSub, Nat.reduceLeDiff, Nat.max_def, if_true, if_false, List.append_nil, List.mem_cons, List.not_mem_nil, or_false, forall_eq_or_imp, forall_eq]
      simp (disch := omega) only [w0]
      exact ⟨by omega, fun zr zi => by constructor <;> grind⟩

/-- a small polynomial: no zero at its end. -/
structure SmP (p : List Int) : Prop where
  l1 : 1 ≤ p.length
  l3 : p.length ≤ 3
  sm : ∀ x ∈ p, Sm x
  top : p[p.length - 1]?.getD 0 ≠ 0
theorem SmP.poly {p : List Int} (h : SmP p) : checkPolyE p = 0 := checkPolyE_intro h.l1 (by have := h.l3; omega) (fun x hx => by have := h.sm x hx; unfold Sm at this; omega) h.top
theorem SmP.value {p : List Int} (h : SmP p) {zr zi : Int} (hr : -8 ≤ zr ∧ zr ≤ 8) (hi : -8 ≤ zi ∧ zi ≤ 8) : valueE p zr zi = 0 ∧ valueR p zr zi = (wrap64 (hor zr zi p).1, wrap64 (hor zr zi p).2) := by
  have h1 : valueE p zr zi = 0 := firstE_zero fun x hx => by
    simp only [List.mem_cons, List.not_mem_nil, or_false] at hx
    rcases hx with rfl | rfl | rfl
    · exact h.poly
    · rw [withinE, if_neg (by omega)]
    · rw [withinE, if_neg (by omega)]
  exact ⟨h1, by rw [valueR_at h1, atW_hor _ _ _ h.l1]⟩
theorem value_of {m : List Int} (h : checkPolyE m = 0) {zr zi : Int} (hr : -8 ≤ zr ∧ zr ≤ 8) (hi : -8 ≤ zi ∧ zi ≤ 8) : valueE m zr zi = 0 ∧ valueR m zr zi = (wrap64 (hor zr zi m).1, wrap64 (hor zr zi m).2) := by
  have h1 : valueE m zr zi = 0 := firstE_zero fun x hx => by
    simp only [List.mem_cons, List.not_mem_nil, or_false] at hx
    rcases hx with rfl | rfl | rfl
    · exact h
    · rw [withinE, if_neg (by omega)]
    · rw [withinE, if_neg (by omega)]
  exact ⟨h1, by rw [valueR_at h1, atW_hor _ _ _ (checkPolyE_ok h).1]⟩

section
variable {p q : List Int}
theorem prod1_zero (hp : SmP p) (hq : SmP q) : prod1E p q = 0 := firstE_zero fun x hx => by
  simp only [List.mem_cons, List.not_mem_nil, or_false] at hx
  rcases hx with rfl | rfl
  · exact hp.poly
  · exact hq.poly
theorem prod_sm (hp : SmP p) (hq : SmP q) : (prodE p q = 0 ∧ prodR p q = timesW p q ∧ checkPolyE (timesW p q) = 0) ∨ prodE p q = 4 := by
  have h1 := prod1_zero hp hq
  have hl := timesW_length p q
  have lp := hp.l1
  have lq := hq.l1
  have lp3 := hp.l3
  have lq3 := hq.l3
  by_cases hL : (timesW p q).any largeB = true
  · right
    rw [prodE, if_neg (by rw [h1]; simp), if_neg (by omega), if_pos hL]
  · left
    have hE : prodE p q = 0 := by rw [prodE, if_neg (by rw [h1]; simp), if_neg (by omega), if_neg hL]
    refine ⟨hE, by rw [prodR, if_neg (by rw [hE]; simp)], ?_⟩
    refine checkPolyE_intro (by omega) (by omega) (large_bd (by simpa using hL)) ?_
    have ht := timesW_top p q lp lq
    rw [show (timesW p q).length - 1 = p.length + q.length - 2 by omega, ht]
    have s1 : ∀ l : List Int, (∀ x ∈ l, Sm x) → -100 ≤ l[l.length - 1]?.getD 0 ∧ l[l.length - 1]?.getD 0 ≤ 100 := fun l h => get_bd (fun x hx => by have := h x hx; unfold Sm at this; omega) _
    exact mul_ne (s1 p hp.sm) (s1 q hq.sm) hp.top hq.top
/-- the value of the product. -/
theorem prod_value (hp : SmP p) (hq : SmP q) (zr zi : Int) :
    wrap64 (hor zr zi (timesW p q)).1 = wrap64 (wrap64 (wrap64 (hor zr zi p).1 * wrap64 (hor zr zi q).1) - wrap64 (wrap64 (hor zr zi p).2 * wrap64 (hor zr zi q).2)) ∧
    wrap64 (hor zr zi (timesW p q)).2 = wrap64 (wrap64 (wrap64 (hor zr zi p).1 * wrap64 (hor zr zi q).2) + wrap64 (wrap64 (hor zr zi p).2 * wrap64 (hor zr zi q).1)) := by
  obtain ⟨h1, h2⟩ := hor_times (zr := zr) (zi := zi) hp.l1 hp.l3 hq.l1 hq.l3 hp.sm hq.sm
  rw [h1, h2]
  have c : ∀ x y : Int, Cg (wrap64 (wrap64 x * wrap64 y)) (x * y) := fun x y => (Cg.wrap _).trans ((Cg.wrap x).mul (Cg.wrap y))
  exact ⟨((c _ _).sub (c _ _)).symm.eq, ((c _ _).add (c _ _)).symm.eq⟩
theorem mem_take {α : Type} {l : List α} {n : Nat} {x : α} (h : x ∈ l.take n) : x ∈ l := List.mem_of_mem_take h
theorem sum_sm (hp : SmP p) (hq : SmP q) : (sumE p q = 0 ∧ sumR p q = plusW p q ∧ checkPolyE (plusW p q) = 0) ∨ (sumE p q = 6 ∧ plusW p q = []) := by
  have h1 := prod1_zero hp hq
  obtain ⟨hb, _⟩ := sumW_small hp.l1 hp.l3 hq.l1 hq.l3 hp.sm hq.sm
  have hl := sumW_length p q
  have lp3 := hp.l3
  have lq3 := hq.l3
  have htl := trimL_length (sumW p q)
  have htn := trimN_le (sumW p q) (sumW p q).length
  by_cases h0 : (plusW p q).length = 0
  · right
    exact ⟨by rw [sumE, if_neg (by rw [h1]; simp), if_pos h0], List.length_eq_zero_iff.1 h0⟩
  · left
    have hbd : ∀ x ∈ plusW p q, -100 ≤ x ∧ x ≤ 100 := fun x hx => by have := hb x (mem_take hx); omega
    have hL : (plusW p q).any largeB = false := by
      rw [List.any_eq_false]
      intro x hx
      have := hbd x hx
      simp [largeB, coefE, withinE]
      omega
    have hE : sumE p q = 0 := by rw [sumE, if_neg (by rw [h1]; simp), if_neg h0, if_neg (by rw [hL]; simp)]
    refine ⟨hE, by rw [sumR, if_neg (by rw [hE]; simp)], ?_⟩
    have h5 : (plusW p q).length ≤ 5 := by unfold plusW; omega
    refine checkPolyE_intro (by omega) h5 hbd ?_
    have key : ∀ (l : List Int) (m : Nat), m ≤ l.length → 0 < trimN l m → (l.take (trimN l m))[trimN l m - 1]?.getD 0 ≠ 0 := by
      intro l m
      induction m with
      | zero => intro _ h; simp [trimN] at h
      | succ m ih =>
        intro hm h
        unfold trimN at h ⊢
        split
        · rename_i hz
          rw [if_pos hz] at h
          exact ih (by omega) h
        · rename_i hz
          rw [Nat.add_sub_cancel, List.getElem?_take, if_pos (by omega)]
          exact hz
    have hk := key (sumW p q) (sumW p q).length (Nat.le_refl _) (by rw [← htl]; unfold plusW at h0; omega)
    rw [show (plusW p q).length = trimN (sumW p q) (sumW p q).length from htl]
    exact hk
/-- the value of the sum. -/
theorem sum_value (hp : SmP p) (hq : SmP q) (zr zi : Int) :
    wrap64 (hor zr zi (plusW p q)).1 = wrap64 (wrap64 (hor zr zi p).1 + wrap64 (hor zr zi q).1) ∧ wrap64 (hor zr zi (plusW p q)).2 = wrap64 (wrap64 (hor zr zi p).2 + wrap64 (hor zr zi q).2) := by
  obtain ⟨_, h2⟩ := sumW_small hp.l1 hp.l3 hq.l1 hq.l3 hp.sm hq.sm
  obtain ⟨h3, h4⟩ := h2 zr zi
  rw [plusW, hor_trim, h3, h4]
  exact ⟨((Cg.wrap _).add (Cg.wrap _)).symm.eq, ((Cg.wrap _).add (Cg.wrap _)).symm.eq⟩
theorem sum_zero (hp : SmP p) (hq : SmP q) (zr zi : Int) (h : plusW p q = []) :
    wrap64 (wrap64 (hor zr zi p).1 + wrap64 (hor zr zi q).1) = 0 ∧ wrap64 (wrap64 (hor zr zi p).2 + wrap64 (hor zr zi q).2) = 0 := by
  obtain ⟨h1, h2⟩ := sum_value hp hq zr zi
  rw [h] at h1 h2
  rw [← h1, ← h2]
  constructor <;> (show wrap64 0 = 0; unfold wrap64; omega)
end

/-- the steps of a polynomial of the degree 2. -/
def seq2 (p0 p1 p2 l0 l1 : Int) : Nat → Int
  | 0 => l0
  | 1 => l1 * p2
  | t + 2 => 0 - p0 * seq2 p0 p1 p2 l0 l1 t * p2 - p1 * seq2 p0 p1 p2 l0 l1 (t + 1)
def seq1 (p0 l0 : Int) : Nat → Int
  | 0 => l0
  | t + 1 => 0 - p0 * seq1 p0 l0 t
theorem seq2_ss (p0 p1 p2 l0 l1 : Int) (t : Nat) : seq2 p0 p1 p2 l0 l1 (t + 1 + 1) = 0 - p0 * seq2 p0 p1 p2 l0 l1 t * p2 - p1 * seq2 p0 p1 p2 l0 l1 (t + 1) := rfl
theorem upto_at (f : Nat → Int) {n k : Nat} (h : k < n) : (upto f n)[k]?.getD 0 = f k := by
  unfold upto; rw [List.getElem?_map, List.getElem?_range h]; rfl
theorem powW_one (x : Int) (h : -1000 ≤ x ∧ x ≤ 1000) : powW x 1 = x := by
  show wrap64 (1 * x) = x
  unfold wrap64; omega
theorem stepL2 {p0 p1 p2 l0 l1 : Int} (h0 : Sm p0) (h1 : Sm p1) (h2 : Sm p2) (m : Nat) (hb : ∀ t, t < m → -1073741824 ≤ seq2 p0 p1 p2 l0 l1 t ∧ seq2 p0 p1 p2 l0 l1 t ≤ 1073741824) :
    stepL [p0, p1, p2] [l0, l1] 2 m = some (upto (seq2 p0 p1 p2 l0 l1) m) := by
  induction m with
  | zero => rfl
  | succ m ih =>
    have ih := ih fun t ht => hb t (by omega)
    have hm := hb m (by omega)
    have hpw := powW_one p2 (by unfold Sm at h2; omega)
    have hv : stepVal [p0, p1, p2] [l0, l1] (upto (seq2 p0 p1 p2 l0 l1) m) 2 m = seq2 p0 p1 p2 l0 l1 m := by
      match m, ih, hm, hb with
      | 0, _, hm, _ =>
        show wrap64 (l0 * 1) = l0
        have : -1073741824 ≤ l0 ∧ l0 ≤ 1073741824 := hm
        unfold wrap64; omega
      | 1, _, hm, _ =>
        show wrap64 (l1 * powW p2 1) = l1 * p2
        rw [hpw]
        have : -1073741824 ≤ l1 * p2 ∧ l1 * p2 ≤ 1073741824 := hm
        exact wrap64_small (by omega)
      | t + 2, _, hm, hb =>
        have b0 := hb t (by omega)
        have b1 := hb (t + 1) (by omega)
        have e0 : (upto (seq2 p0 p1 p2 l0 l1) (t + 2))[t + 2 - 2 + 0]?.getD 0 = seq2 p0 p1 p2 l0 l1 t := upto_at _ (by omega)
        have e1 : (upto (seq2 p0 p1 p2 l0 l1) (t + 2))[t + 2 - 2 + 1]?.getD 0 = seq2 p0 p1 p2 l0 l1 (t + 1) := upto_at _ (by omega)
        rw [stepVal, if_neg (by omega)]
        simp only [stepIn, e0, e1]
        show wrap64 (wrap64 (0 - wrap64 (wrap64 (p0 * seq2 p0 p1 p2 l0 l1 t) * powW p2 1)) - wrap64 (wrap64 (p1 * seq2 p0 p1 p2 l0 l1 (t + 1)) * 1)) = seq2 p0 p1 p2 l0 l1 (t + 2)
        rw [hpw, seq2]
        generalize seq2 p0 p1 p2 l0 l1 t = x at b0
        generalize seq2 p0 p1 p2 l0 l1 (t + 1) = y at b1
        have m0 := mulb (A := 7) (B := 1073741824) (x := p0) (y := x) h0 b0
        have m1 := mulb (A := 7) (B := 1073741824) (x := p1) (y := y) h1 b1
        have m2 := mulb (A := 7 * 1073741824) (B := 7) (x := p0 * x) (y := p2) m0 h2
        rw [wrap64_small (x := p0 * x) (by omega), wrap64_small (x := p0 * x * p2) (by omega), wrap64_small (x := p1 * y) (by omega), Int.mul_one, wrap64_small (x := p1 * y) (by omega), wrap64_small (x := 0 - p0 * x * p2) (by omega), wrap64_small (by omega)]
    rw [stepL_yes ih (by rw [hv]; unfold inB; omega), hv, upto_succ]
theorem stepL1 {p0 p1 l0 : Int} (h0 : Sm p0) (m : Nat) (hb : ∀ t, t < m → -1073741824 ≤ seq1 p0 l0 t ∧ seq1 p0 l0 t ≤ 1073741824) :
    stepL [p0, p1] [l0] 1 m = some (upto (seq1 p0 l0) m) := by
  induction m with
  | zero => rfl
  | succ m ih =>
    have ih := ih fun t ht => hb t (by omega)
    have hm := hb m (by omega)
    have hv : stepVal [p0, p1] [l0] (upto (seq1 p0 l0) m) 1 m = seq1 p0 l0 m := by
      match m, ih, hm, hb with
      | 0, _, hm, _ =>
        show wrap64 (l0 * 1) = l0
        have : -1073741824 ≤ l0 ∧ l0 ≤ 1073741824 := hm
        unfold wrap64; omega
      | t + 1, _, hm, hb =>
        have b0 := hb t (by omega)
        have e0 : (upto (seq1 p0 l0) (t + 1))[t + 1 - 1 + 0]?.getD 0 = seq1 p0 l0 t := upto_at _ (by omega)
        rw [stepVal, if_neg (by omega)]
        simp only [stepIn, e0]
        show wrap64 (0 - wrap64 (wrap64 (p0 * seq1 p0 l0 t) * 1)) = seq1 p0 l0 (t + 1)
        rw [seq1]
        generalize seq1 p0 l0 t = x at b0
        have m0 := mulb (A := 7) (B := 1073741824) (x := p0) (y := x) h0 b0
        rw [wrap64_small (x := p0 * x) (by omega), Int.mul_one, wrap64_small (x := p0 * x) (by omega), wrap64_small (by omega)]
    rw [stepL_yes ih (by rw [hv]; unfold inB; omega), hv, upto_succ]

theorem seq2_bd {p0 p1 p2 l0 l1 : Int} (h0 : Sm p0) (h1 : Sm p1) (h2 : Sm p2) (k0 : -256 ≤ l0 ∧ l0 ≤ 256) (k1 : -256 ≤ l1 ∧ l1 ≤ 256) (t : Nat) :
    (-(256 * 12 ^ t : Int) ≤ seq2 p0 p1 p2 l0 l1 t ∧ seq2 p0 p1 p2 l0 l1 t ≤ (256 * 12 ^ t : Int)) ∧ (-(256 * 12 ^ (t + 1) : Int) ≤ seq2 p0 p1 p2 l0 l1 (t + 1) ∧ seq2 p0 p1 p2 l0 l1 (t + 1) ≤ (256 * 12 ^ (t + 1) : Int)) := by
  induction t with
  | zero =>
    have := mulb (A := 256) (B := 7) (x := l1) (y := p2) k1 h2
    refine ⟨?_, ?_⟩
    · simp [seq2]; omega
    · simp [seq2]; omega
  | succ t ih =>
    obtain ⟨i0, i1⟩ := ih
    refine ⟨i1, ?_⟩
    rw [seq2]
    generalize seq2 p0 p1 p2 l0 l1 t = x at i0
    generalize seq2 p0 p1 p2 l0 l1 (t + 1) = y at i1
    rw [Int.pow_succ] at i1
    rw [Int.pow_succ, Int.pow_succ]
    have hpos : (0 : Int) ≤ 12 ^ t := Int.pow_nonneg (by omega)
    generalize (12 : Int) ^ t = B at i0 i1 hpos ⊢
    have m0 := mulb (A := 7) (B := 256 * B) (x := p0) (y := x) h0 i0
    have m1 := mulb (A := 7) (B := 256 * (B * 12)) (x := p1) (y := y) h1 i1
    have m2 := mulb (A := 7 * (256 * B)) (B := 7) (x := p0 * x) (y := p2) m0 h2
    omega
theorem seq1_bd {p0 l0 : Int} (h0 : Sm p0) (k0 : -256 ≤ l0 ∧ l0 ≤ 256) (t : Nat) : -(256 * 12 ^ t : Int) ≤ seq1 p0 l0 t ∧ seq1 p0 l0 t ≤ (256 * 12 ^ t : Int) := by
  induction t with
  | zero => simp [seq1]; omega
  | succ t ih =>
    rw [seq1, Int.pow_succ]
    generalize seq1 p0 l0 t = x at ih
    have hpos : (0 : Int) ≤ 12 ^ t := Int.pow_nonneg (by omega)
    generalize (12 : Int) ^ t = B at ih hpos ⊢
    have m0 := mulb (A := 7) (B := 256 * B) (x := p0) (y := x) h0 ih
    omega
theorem pow12 (t : Nat) (h : t ≤ 6) : (256 * 12 ^ t : Int) ≤ 1073741824 ∧ (0 : Int) ≤ 256 * 12 ^ t := by
  obtain rfl | rfl | rfl | rfl | rfl | rfl | rfl : t = 0 ∨ t = 1 ∨ t = 2 ∨ t = 3 ∨ t = 4 ∨ t = 5 ∨ t = 6 := by omega
  all_goals decide
theorem seq2_add (p0 p1 p2 l0 l1 k0 k1 : Int) (t : Nat) : seq2 p0 p1 p2 (l0 + k0) (l1 + k1) t = seq2 p0 p1 p2 l0 l1 t + seq2 p0 p1 p2 k0 k1 t ∧ seq2 p0 p1 p2 (l0 + k0) (l1 + k1) (t + 1) = seq2 p0 p1 p2 l0 l1 (t + 1) + seq2 p0 p1 p2 k0 k1 (t + 1) := by
  induction t with
  | zero => exact ⟨rfl, by simp only [seq2]; grind⟩
  | succ t ih =>
    obtain ⟨i0, i1⟩ := ih
    refine ⟨i1, ?_⟩
    rw [seq2_ss, seq2_ss p0 p1 p2 l0, seq2_ss p0 p1 p2 k0, i0, i1]
    grind
theorem seq1_add (p0 l0 k0 : Int) (t : Nat) : seq1 p0 (l0 + k0) t = seq1 p0 l0 t + seq1 p0 k0 t := by
  induction t with
  | zero => rfl
  | succ t ih => simp only [seq1, ih]; grind
theorem seq2_later (p0 p1 l0 l1 : Int) (t : Nat) : seq2 p0 p1 1 (seq2 p0 p1 1 l0 l1 1) (seq2 p0 p1 1 l0 l1 2) t = seq2 p0 p1 1 l0 l1 (t + 1) ∧ seq2 p0 p1 1 (seq2 p0 p1 1 l0 l1 1) (seq2 p0 p1 1 l0 l1 2) (t + 1) = seq2 p0 p1 1 l0 l1 (t + 2) := by
  induction t with
  | zero => exact ⟨rfl, by rw [show seq2 p0 p1 1 (seq2 p0 p1 1 l0 l1 1) (seq2 p0 p1 1 l0 l1 2) (0 + 1) = seq2 p0 p1 1 l0 l1 2 * 1 from rfl, Int.mul_one]⟩
  | succ t ih =>
    obtain ⟨i0, i1⟩ := ih
    refine ⟨i1, ?_⟩
    rw [seq2_ss p0 p1 1 (seq2 p0 p1 1 l0 l1 1), i0, i1]
    rfl
theorem seq1_later (p0 l0 : Int) (t : Nat) : seq1 p0 (seq1 p0 l0 1) t = seq1 p0 l0 (t + 1) := by
  induction t with
  | zero => rfl
  | succ t ih => rw [seq1, ih]; rfl

end Go.Proofs.YtnlmaildmeihgaaGreatDoor

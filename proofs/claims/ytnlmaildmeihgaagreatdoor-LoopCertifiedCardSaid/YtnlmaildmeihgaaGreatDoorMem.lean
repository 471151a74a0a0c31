/- Plain facts of boxes and of closed loops. -/
import Derived.Test.YtnlmaildmeihgaaGreatDoorLoopW
import Derived.Test.YtnlmaildmeihgaaGreatDoorRefV
namespace Go.Proofs.YtnlmaildmeihgaaGreatDoor
open Go.RowKit

theorem membersW_append (l r : List (Int × Int)) : membersW (l ++ r) = (membersW l).flatMap fun m => (membersW r).map (m ++ ·) := by
  induction l with
  | nil => simp [membersW]
  | cons x l ih =>
    simp only [List.cons_append, membersW, ih, List.map_flatMap, List.flatMap_assoc, List.flatMap_map, List.map_map]
    rfl
theorem membersW_snoc (l : List (Int × Int)) (x : Int × Int) : membersW (l ++ [x]) = (membersW l).flatMap fun m => (span x.1 x.2).map fun n => m ++ [n] := by
  rw [membersW_append]
  congr 1
  funext m
  simp only [membersW, List.map_cons, List.map_nil]
  induction span x.1 x.2 with
  | nil => rfl
  | cons y l ih => simp only [List.flatMap_cons, List.map_append, List.map_cons, List.map_nil, ih]; rfl
theorem sum_const {α : Type} (l : List α) (c : Nat) : (l.map fun _ => c).sum = l.length * c := by
  induction l with
  | nil => simp
  | cons x l ih => simp [ih, Nat.add_mul]; omega
theorem membersW_count (l r : List (Int × Int)) : (membersW (l ++ r)).length = (membersW l).length * (membersW r).length := by
  rw [membersW_append, List.length_flatMap]
  simp only [List.length_map]
  exact sum_const _ _
theorem span_length (a b : Int) : (span a b).length = (b + 1 - a).toNat := upto_length _ _
theorem membersW_cons_count (x : Int × Int) (r : List (Int × Int)) : (membersW (x :: r)).length = (x.2 + 1 - x.1).toNat * (membersW r).length := by
  rw [membersW, List.length_flatMap]
  simp only [List.length_map]
  rw [sum_const, span_length]
theorem membersW_pos {l : List (Int × Int)} (h : ∀ x ∈ l, x.1 ≤ x.2) : 0 < (membersW l).length := by
  induction l with
  | nil => simp [membersW]
  | cons x l ih =>
    rw [membersW_cons_count]
    have := h x (by simp)
    exact Nat.mul_pos (by omega) (ih fun y hy => h y (by simp [hy]))
theorem membersW_take_le {l : List (Int × Int)} (h : ∀ x ∈ l, x.1 ≤ x.2) (i : Nat) : (membersW (l.take i)).length ≤ (membersW l).length := by
  have e := membersW_count (l.take i) (l.drop i)
  rw [List.take_append_drop] at e
  have := membersW_pos (l := l.drop i) (fun x hx => h x (List.mem_of_mem_drop hx))
  rw [e]
  exact Nat.le_mul_of_pos_right _ this
theorem take_snoc {α : Type} {l : List α} {i : Nat} {x : α} (h : l[i]? = some x) : l.take (i + 1) = l.take i ++ [x] := by rw [List.take_add_one, h]; rfl

theorem many_count {l : List (Int × Int)} (h : ∀ x ∈ l, -100 ≤ x.1 ∧ x.1 ≤ 100 ∧ -100 ≤ x.2 ∧ x.2 ≤ 100 ∧ x.1 ≤ x.2) (hl : l.length ≤ 7) (k : Nat) (hk : k ≤ l.length) :
    manyW l k = ((membersW (l.take k)).length : Int) ∧ (membersW (l.take k)).length ≤ 201 ^ k := by
  induction k with
  | zero => simp [manyW, membersW]
  | succ k ih =>
    obtain ⟨i1, i2⟩ := ih (by omega)
    obtain ⟨x, hx⟩ : ∃ x, l[k]? = some x := ⟨_, List.getElem?_eq_getElem (by omega)⟩
    have hb := h x (List.mem_of_getElem? hx)
    have e := membersW_count (l.take k) [x]
    rw [← take_snoc hx, membersW_cons_count] at e
    rw [show (membersW []).length = 1 from rfl, Nat.mul_one] at e
    have hs : (x.2 + 1 - x.1).toNat ≤ 201 := by omega
    have hp : (201 : Nat) ^ k ≤ 201 ^ 6 := Nat.pow_le_pow_right (by omega) (by omega)
    have hm : (membersW (l.take k)).length * (x.2 + 1 - x.1).toNat ≤ 201 ^ k * 201 := Nat.mul_le_mul i2 hs
    refine ⟨?_, by rw [e, Nat.pow_succ]; exact hm⟩
    have hc : (((membersW (l.take k)).length * (x.2 + 1 - x.1).toNat : Nat) : Int) = ((membersW (l.take k)).length : Int) * (x.2 - x.1 + 1) := by
      rw [Int.natCast_mul, Int.toNat_of_nonneg (by omega)]; congr 1; omega
    rw [manyW, hx, i1, e, hc]
    simp only [Option.getD_some]
    have h1 : wrap64 (x.2 - x.1) = x.2 - x.1 := by unfold wrap64; omega
    have h2 : wrap64 (x.2 - x.1 + 1) = x.2 - x.1 + 1 := by unfold wrap64; omega
    rw [h1, h2]
    have h3 : (((membersW (l.take k)).length * (x.2 + 1 - x.1).toNat : Nat) : Int) ≤ (201 : Int) ^ 6 * 201 := by
      have : (membersW (l.take k)).length * (x.2 + 1 - x.1).toNat ≤ 201 ^ 6 * 201 := Nat.le_trans hm (Nat.mul_le_mul_right _ hp)
      have := Int.ofNat_le.2 this
      simpa using this
    rw [hc] at h3
    have h4 : (0 : Int) ≤ ((membersW (l.take k)).length : Int) * (x.2 - x.1 + 1) := Int.mul_nonneg (by omega) (by omega)
    generalize ((membersW (l.take k)).length : Int) * (x.2 - x.1 + 1) = z at h3 h4 ⊢
    unfold wrap64; omega
theorem many_all {l : List (Int × Int)} (h : ∀ x ∈ l, -100 ≤ x.1 ∧ x.1 ≤ 100 ∧ -100 ≤ x.2 ∧ x.2 ≤ 100 ∧ x.1 ≤ x.2) (hl : l.length ≤ 7) : manyW l l.length = ((membersW l).length : Int) := by
  have := (many_count h hl l.length (Nat.le_refl _)).1
  rwa [List.take_length] at this

theorem mem_membersW {l : List (Int × Int)} {m : List Int} (h : m ∈ membersW l) : ∀ (i : Nat) (x : Int × Int), l[i]? = some x → x.1 ≤ m[i]?.getD 0 ∧ m[i]?.getD 0 ≤ x.2 := by
  induction l generalizing m with
  | nil => intro i x hx; simp at hx
  | cons y l ih =>
    simp only [membersW, List.mem_flatMap, List.mem_map] at h
    obtain ⟨n, hn, m', hm', rfl⟩ := h
    intro i x hx
    cases i with
    | zero =>
      simp at hx ⊢
      subst hx
      simp only [span, upto, List.mem_map, List.mem_range] at hn
      obtain ⟨k, hk, rfl⟩ := hn
      omega
    | succ i =>
      simp at hx ⊢
      exact ih hm' i x hx

theorem tInner_ge (q : List Int) (i : Nat) (a : Int) (out : List Int) (k j : Nat) (h : i + k ≤ j) : (tInner q i a out k)[j]?.getD 0 = out[j]?.getD 0 := by
  induction k with
  | zero => rfl
  | succ k ih => rw [tInner, List.getElem?_set_ne (by omega)]; exact ih (by omega)
theorem tOuter_ge (p q : List Int) (n m j : Nat) (h : m + q.length ≤ j + 1) : (tOuter p q (List.replicate n 0) m)[j]?.getD 0 = 0 := by
  induction m with
  | zero => rw [tOuter, List.getElem?_replicate]; split <;> rfl
  | succ m ih => rw [tOuter, tInner_ge _ _ _ _ _ _ (by omega)]; exact ih (by omega)
theorem timesW_top (p q : List Int) (hp : 1 ≤ p.length) (hq : 1 ≤ q.length) : (timesW p q)[p.length + q.length - 2]?.getD 0 = wrap64 (p[p.length - 1]?.getD 0 * q[q.length - 1]?.getD 0) := by
  obtain ⟨m, hm⟩ : ∃ m, p.length = m + 1 := ⟨p.length - 1, by omega⟩
  obtain ⟨n, hn⟩ : ∃ n, q.length = n + 1 := ⟨q.length - 1, by omega⟩
  have h0 : (tInner q m (p[m]?.getD 0) (tOuter p q (List.replicate (m + 1 + (n + 1) - 1) 0) m) n)[m + n]?.getD 0 = 0 := by
    rw [tInner_ge _ _ _ _ _ _ (Nat.le_refl _), tOuter_ge _ _ _ _ _ (by omega)]
  rw [timesW, hm, tOuter, hn, tInner, show m + 1 + (n + 1) - 2 = m + n by omega, List.getElem?_set_self (by rw [tInner_length, tOuter_length]; simp), h0]
  simp only [Option.getD_some, Int.zero_add, Nat.add_sub_cancel]
  unfold wrap64; omega
theorem pInner_ge (q out : List Int) (k j : Nat) (h : k ≤ j) : (pInner q out k)[j]?.getD 0 = out[j]?.getD 0 := by
  induction k with
  | zero => rfl
  | succ k ih => rw [pInner, List.getElem?_set_ne (by omega)]; exact ih (by omega)
theorem trimL_full {l : List Int} (h : l[l.length - 1]?.getD 0 ≠ 0) : trimL l = l := by
  cases hl : l.length with
  | zero => rw [List.length_eq_zero_iff.1 hl]; rfl
  | succ m =>
    rw [trimL, hl, trimN]
    rw [hl, Nat.add_sub_cancel] at h
    rw [if_neg h, ← hl, List.take_length]
theorem sumW_top (p q : List Int) (h : q.length < p.length) : (sumW p q)[p.length - 1]?.getD 0 = p[p.length - 1]?.getD 0 := by
  rw [sumW, pInner_ge _ _ _ _ (by omega), List.getElem?_append_left (by omega)]
theorem plusW_full {p q : List Int} (h : q.length < p.length) (h0 : p[p.length - 1]?.getD 0 ≠ 0) : plusW p q = sumW p q := by
  have hl : (sumW p q).length = p.length := by rw [sumW_length]; omega
  exact trimL_full (by rw [hl, sumW_top p q h]; exact h0)

theorem mul_ne {x y : Int} (hx : -100 ≤ x ∧ x ≤ 100) (hy : -100 ≤ y ∧ y ≤ 100) (h1 : x ≠ 0) (h2 : y ≠ 0) : wrap64 (x * y) ≠ 0 := by
  have a : x * y ≠ 0 := Int.mul_ne_zero h1 h2
  have b : (x * y).natAbs ≤ 100 * 100 := by rw [Int.natAbs_mul]; exact Nat.mul_le_mul (by omega) (by omega)
  generalize x * y = z at a b
  unfold wrap64; omega

theorem get_bd {p : List Int} (h : ∀ x ∈ p, -100 ≤ x ∧ x ≤ 100) (i : Nat) : -100 ≤ p[i]?.getD 0 ∧ p[i]?.getD 0 ≤ 100 := by
  cases hq : p[i]? with
  | none => simp
  | some x => exact h x (List.mem_of_getElem? hq)

/-- the closed loop of a loop that is in order. -/
theorem closedW_full {a b c d : List Int} (hb : checkPolyE b = 0) (hd : checkPolyE d = 0) (ha1 : 1 ≤ a.length) (hc1 : 1 ≤ c.length) (hab : a.length < b.length) (hcd : c.length ≤ d.length) :
    (closedW a b c d).length = b.length + d.length - 1 ∧ (closedW a b c d)[b.length + d.length - 2]?.getD 0 ≠ 0 := by
  obtain ⟨hb1, hb2⟩ := checkPolyE_range hb
  obtain ⟨hd1, hd2⟩ := checkPolyE_range hd
  have lb := checkPolyE_ok hb
  have ld := checkPolyE_ok hd
  have e1 := timesW_length b d
  have e2 := timesW_length a c
  have et := timesW_top b d (by omega) (by omega)
  have hne : (timesW b d)[b.length + d.length - 2]?.getD 0 ≠ 0 := by rw [et]; exact mul_ne (get_bd hb1 _) (get_bd hd1 _) hb2 hd2
  have hlt : (timesW a c).length < (timesW b d).length := by omega
  have hix : (timesW b d).length - 1 = b.length + d.length - 2 := by omega
  have hf : closedW a b c d = sumW (timesW b d) (timesW a c) := plusW_full hlt (by rw [hix]; exact hne)
  rw [hf]
  refine ⟨by rw [sumW_length]; omega, ?_⟩
  rw [← hix, sumW_top _ _ hlt, hix]; exact hne

theorem firstE_zero {l : List Int} (h : ∀ x ∈ l, x = 0) : firstE l = 0 := by
  induction l with
  | nil => rfl
  | cons x l ih => rw [firstE, if_pos (h x (by simp))]; exact ih fun y hy => h y (by simp [hy])
theorem checkPolyE_intro {p : List Int} (h1 : 1 ≤ p.length) (h5 : p.length ≤ 5) (hb : ∀ x ∈ p, -100 ≤ x ∧ x ≤ 100) (h0 : p[p.length - 1]?.getD 0 ≠ 0) : checkPolyE p = 0 := by
  rw [checkPolyE, if_neg (by omega), if_neg (by omega)]
  refine firstE_zero fun x hx => ?_
  simp only [List.mem_cons, List.not_mem_nil, or_false] at hx
  rcases hx with rfl | rfl
  · refine firstE_zero fun y hy => ?_
    obtain ⟨z, hz, rfl⟩ := List.mem_map.1 hy
    have := hb z hz
    rw [coefE, withinE, if_neg (by omega)]
  · rw [show (p[p.length - 1]?.getD 0 == 0) = false by rw [beq_eq_false_iff_ne]; exact h0]; rfl
theorem large_bd {p : List Int} (h : p.any largeB = false) : ∀ x ∈ p, -100 ≤ x ∧ x ≤ 100 := fun x hx => by
  rw [List.any_eq_false] at h
  have := h x hx
  simp [largeB, coefE, withinE] at this
  omega
theorem loop2E_ok {a b c d : List Int} (h : loop2E a b c d = 0) : b.length ≤ 3 ∧ d.length ≤ 3 ∧ a.length < b.length ∧ c.length ≤ d.length ∧ (closedW a b c d).any largeB = false := by
  unfold loop2E at h
  obtain ⟨h1, h⟩ := firstE_cons_ok h
  obtain ⟨h2, h⟩ := firstE_cons_ok h
  obtain ⟨h3, _⟩ := firstE_cons_ok h
  have h1 := whenE_ok h1 (by decide)
  have h2 := whenE_ok h2 (by decide)
  have h3 := whenE_ok h3 (by decide)
  simp only [decide_eq_false_iff_not, Bool.or_eq_false_iff] at h1 h2
  exact ⟨by omega, by omega, by omega, by omega, h3⟩
theorem checkLoopE_all {a b c d : List Int} (h : checkLoopE a b c d = 0) : (checkPolyE a = 0 ∧ checkPolyE b = 0 ∧ checkPolyE c = 0 ∧ checkPolyE d = 0) ∧ loop2E a b c d = 0 := by
  refine ⟨checkLoopE_ok h, ?_⟩
  unfold checkLoopE at h
  split at h
  · exact absurd h (by assumption)
  · exact h
theorem loop2E_intro {a b c d : List Int} (h1 : b.length ≤ 3) (h2 : d.length ≤ 3) (h3 : a.length < b.length) (h4 : c.length ≤ d.length) (h5 : (closedW a b c d).any largeB = false) : loop2E a b c d = 0 := by
  unfold loop2E
  rw [h5]
  refine firstE_zero fun x hx => ?_
  simp only [List.mem_cons, List.not_mem_nil, or_false] at hx
  rcases hx with rfl | rfl | rfl
  · rw [show decide ((2 : Int) < max ((b.length : Int) - 1) ((d.length : Int) - 1)) = false from decide_eq_false (by omega)]; rfl
  · rw [show (decide (b.length ≤ a.length) || decide (d.length < c.length)) = false by simp; omega]; rfl
  · rfl
theorem checkLoopE_intro {a b c d : List Int} (ha : checkPolyE a = 0) (hb : checkPolyE b = 0) (hc : checkPolyE c = 0) (hd : checkPolyE d = 0) (h : loop2E a b c d = 0) : checkLoopE a b c d = 0 := by
  rw [checkLoopE, if_neg (by rw [show loop1E a b c d = firstE [checkPolyE a, checkPolyE b, checkPolyE c, checkPolyE d] from rfl, ha, hb, hc, hd]; simp [firstE]), h]
/-- the closed loop of a valid loop is a polynomial. -/
theorem closed_poly {a b c d : List Int} (h : checkLoopE a b c d = 0) : checkPolyE (closedW a b c d) = 0 := by
  obtain ⟨⟨ha, hb, hc, hd⟩, h2⟩ := checkLoopE_all h
  obtain ⟨l1, l2, l3, l4, l5⟩ := loop2E_ok h2
  have la := checkPolyE_ok ha
  have lb := checkPolyE_ok hb
  have lc := checkPolyE_ok hc
  have ld := checkPolyE_ok hd
  obtain ⟨e1, e2⟩ := closedW_full hb hd (by omega) (by omega) l3 l4
  exact checkPolyE_intro (by omega) (by omega) (large_bd l5) (by rw [e1, show b.length + d.length - 1 - 1 = b.length + d.length - 2 by omega]; exact e2)
/-- each member of a valid box is the numerator of a valid loop. -/
theorem member_loop {a b c d : List Int} {bx : List (Int × Int)} (h : checkBoxE a b c d bx = 0) {p : List Int} (hp : p ∈ membersW bx) : checkLoopE p b c d = 0 := by
  obtain ⟨h1, h2, h3⟩ := checkBoxE_ok h
  obtain ⟨e1, e2, e3⟩ := box1E_ok h1
  obtain ⟨⟨ha, hb, hc, hd⟩, k2⟩ := checkLoopE_all e1
  obtain ⟨l1, l2, l3, l4, l5⟩ := loop2E_ok k2
  have la := checkPolyE_ok ha
  have hlen := membersW_length hp
  have hi := intervalsE_ok e3
  have hm := mem_membersW hp
  have hpoly : checkPolyE p = 0 := by
    refine checkPolyE_intro (by omega) (by omega) (fun x hx => ?_) ?_
    · obtain ⟨i, hi', rfl⟩ := List.getElem_of_mem hx
      have hbx : i < bx.length := by omega
      have h4 := hm i bx[i] (List.getElem?_eq_getElem hbx)
      have h5 := hi bx[i] (List.getElem_mem hbx)
      rw [List.getElem?_eq_getElem hi'] at h4
      simp at h4
      omega
    · have hbx : bx.length - 1 < bx.length := by omega
      have h4 := hm (bx.length - 1) bx[bx.length - 1] (List.getElem?_eq_getElem hbx)
      unfold box2E at h2
      obtain ⟨h2, _⟩ := firstE_cons_ok h2
      have h2 := whenE_ok h2 (by decide)
      rw [show lastP bx = bx[bx.length - 1] by rw [lastP, List.getElem?_eq_getElem hbx]; rfl] at h2
      simp only [decide_eq_false_iff_not] at h2
      rw [hlen]
      omega
  exact checkLoopE_intro hpoly hb hc hd (loop2E_intro l1 l2 (by omega) l4 (h3 p hp))

end Go.Proofs.YtnlmaildmeihgaaGreatDoor

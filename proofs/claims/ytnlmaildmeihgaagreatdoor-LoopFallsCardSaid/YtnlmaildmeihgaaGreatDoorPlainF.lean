/- Plain facts of the law LoopFalls: rings that step towards a phase. -/
import Derived.Test.YtnlmaildmeihgaaGreatDoorMem
import Derived.Test.YtnlmaildmeihgaaGreatDoorRefB
namespace Go.Proofs.YtnlmaildmeihgaaGreatDoor
open Go.RowKit

theorem mod2 {a n : Int} (h0 : 0 ≤ a) (h1 : a < 2 * n) : a % n = if a < n then a else a - n := by
  split
  · exact Int.emod_eq_of_lt h0 (by assumption)
  · rw [Int.emod_def, show a / n = 1 from by
      refine Int.le_antisymm ?_ ?_
      · have : a / n < 2 := Int.ediv_lt_of_lt_mul (by omega) (by omega)
        omega
      · exact Int.le_ediv_of_mul_le (by omega) (by omega)]
    omega

/-- the shorter way to a phase. -/
def wayI (n phase x : Int) : Int := min ((phase - x + n) % n) ((x - phase + n) % n)
theorem way_eq {n phase x : Int} (hx : 0 ≤ x ∧ x < n) (hp : 0 ≤ phase ∧ phase < n) :
    (phase - x + n) % n = (if x ≤ phase then phase - x else phase - x + n) ∧ (x - phase + n) % n = (if phase ≤ x then x - phase else x - phase + n) := by
  rw [mod2 (by omega) (by omega), mod2 (by omega) (by omega)]
  constructor
  · split <;> split <;> omega
  · split <;> split <;> omega
theorem way_bd {n phase x : Int} (hx : 0 ≤ x ∧ x < n) (hp : 0 ≤ phase ∧ phase < n) : 0 ≤ wayI n phase x ∧ wayI n phase x < n ∧ (wayI n phase x = 0 ↔ x = phase) := by
  obtain ⟨h1, h2⟩ := way_eq hx hp
  unfold wayI
  rw [h1, h2]
  split <;> split <;> omega
theorem made_way {n phase most x : Int} (hx : 0 ≤ x ∧ x < n) (hp : 0 ≤ phase ∧ phase < n) (hm : 1 ≤ most) :
    (0 ≤ madeAt n phase most x ∧ madeAt n phase most x < n) ∧ wayI n phase (madeAt n phase most x) = wayI n phase x - min most (wayI n phase x) := by
  obtain ⟨h1, h2⟩ := way_eq hx hp
  have hy : (0 ≤ madeAt n phase most x ∧ madeAt n phase most x < n) ∧ madeAt n phase most x = (if x = phase then x else if (phase - x + n) % n ≤ (x - phase + n) % n then (if x + min most ((phase - x + n) % n) < n then x + min most ((phase - x + n) % n) else x + min most ((phase - x + n) % n) - n) else (if x - min most ((x - phase + n) % n) + n < n then x - min most ((x - phase + n) % n) + n else x - min most ((x - phase + n) % n))) := by
    unfold madeAt
    rw [h1, h2]
    by_cases h3 : x ≤ phase
    · by_cases h4 : phase ≤ x
      · obtain rfl : x = phase := by omega
        simp
        omega
      · rw [if_pos h3, if_neg h4, if_neg (by omega), if_neg (by omega : ¬ x = phase)]
        split
        · rw [mod2 (by omega) (by omega)]
          split <;> omega
        · rw [mod2 (by omega) (by omega)]
          split <;> omega
    · rw [if_neg h3, if_pos (by omega : phase ≤ x), if_neg (by omega), if_neg (by omega : ¬ x = phase)]
      split
      · rw [mod2 (by omega) (by omega)]
        split <;> omega
      · rw [mod2 (by omega) (by omega)]
        split <;> omega
  refine ⟨hy.1, ?_⟩
  obtain ⟨hb, he⟩ := hy
  obtain ⟨h5, h6⟩ := way_eq hb hp
  unfold wayI
  rw [h5, h6]
  rw [h1, h2] at he ⊢
  generalize madeAt n phase most x = y at hb he ⊢
  by_cases h3 : x ≤ phase
  · by_cases h4 : phase ≤ x
    · obtain rfl : x = phase := by omega
      rw [if_pos rfl] at he
      subst he
      simp; omega
    · rw [if_pos h3, if_neg h4] at he ⊢
      rw [if_neg (by omega : ¬ x = phase)] at he
      split at he
      · split at he <;> split <;> split <;> omega
      · split at he <;> split <;> split <;> omega
  · rw [if_neg h3, if_pos (by omega : phase ≤ x)] at he ⊢
    rw [if_neg (by omega : ¬ x = phase)] at he
    split at he
    · split at he <;> split <;> split <;> omega
    · split at he <;> split <;> split <;> omega

/-- divided, rounded up. -/
def cdiv (e m : Nat) : Nat := (e + m - 1) / m
theorem cdiv_zero {m : Nat} (h : 1 ≤ m) : cdiv 0 m = 0 := by unfold cdiv; exact Nat.div_eq_of_lt (by omega)
theorem cdiv_step {e m : Nat} (h : 1 ≤ m) (he : 1 ≤ e) : cdiv e m = cdiv (e - min m e) m + 1 := by
  unfold cdiv
  rcases Nat.lt_or_ge m e with h1 | h1
  · rw [Nat.min_eq_left (by omega), show e + m - 1 = (e - m + m - 1) + m by omega, Nat.add_div_right _ (by omega)]
  · rw [Nat.min_eq_right h1, Nat.sub_self, Nat.zero_add, Nat.div_eq_of_lt (by omega : m - 1 < m), show e + m - 1 = (e - 1) + m by omega, Nat.add_div_right _ (by omega), Nat.div_eq_of_lt (by omega)]
theorem cdiv_le {m : Nat} (h : 1 ≤ m) (e : Nat) : cdiv e m ≤ e := by
  unfold cdiv
  rcases Nat.eq_zero_or_pos e with rfl | he
  · rw [Nat.div_eq_of_lt (by omega)]; exact Nat.zero_le _
  · have : (e + m - 1) / m ≤ (e * m) / m := Nat.div_le_div_right (by
      obtain ⟨a, rfl⟩ : ∃ a, e = a + 1 := ⟨e - 1, by omega⟩
      obtain ⟨b, rfl⟩ : ∃ b, m = b + 1 := ⟨m - 1, by omega⟩
      have : (a + 1) * (b + 1) = a * b + a + b + 1 := by grind
      omega)
    rwa [Nat.mul_div_cancel _ (by omega)] at this
theorem cdiv_pos {e m : Nat} (h : 1 ≤ m) (he : 1 ≤ e) : 1 ≤ cdiv e m := by rw [cdiv_step h he]; omega

theorem madeL_length (n phase most : Int) : (madeL n phase most).length = n.toNat := upto_length _ _
theorem madeL_get {n phase most x : Int} (hx : 0 ≤ x ∧ x < n) : (madeL n phase most)[x.toNat]?.getD 0 = madeAt n phase most x := by
  have h : x.toNat < n.toNat := by omega
  unfold madeL upto
  rw [List.getElem?_map, List.getElem?_range h]
  simp only [Option.map_some, Option.getD_some]
  rw [Int.toNat_of_nonneg hx.1]

section
variable {n phase most : Int}
theorem made_ring (hp : 0 ≤ phase ∧ phase < n) (hm : 1 ≤ most) : RingP (madeL n phase most) := fun y hy => by
  obtain ⟨k, hk, rfl⟩ := List.mem_map.1 (show y ∈ (List.range n.toNat).map (fun (k : Nat) => madeAt n phase most (k : Int)) from hy)
  have hk := List.mem_range.1 hk
  rw [madeL_length]
  have := (made_way (n := n) (phase := phase) (most := most) (x := k) (by omega) hp hm).1
  omega
theorem made_falls (hp : 0 ≤ phase ∧ phase < n) (hm : 1 ≤ most) (x : Int) (f : Nat) : ∀ k, (0 ≤ ringAt (madeL n phase most) x k ∧ ringAt (madeL n phase most) x k < n) → cdiv (wayI n phase (ringAt (madeL n phase most) x k)).toNat most.toNat < f →
    fallL (madeL n phase most) x phase f k = some (k + cdiv (wayI n phase (ringAt (madeL n phase most) x k)).toNat most.toNat) := by
  induction f with
  | zero => intro k _ h; omega
  | succ f ih =>
    intro k hb hf
    obtain ⟨w1, w2, w3⟩ := way_bd hb hp
    rw [fallL]
    by_cases h0 : ringAt (madeL n phase most) x k = phase
    · rw [if_pos h0]
      have := w3.2 h0
      rw [this, show (0 : Int).toNat = 0 from rfl, cdiv_zero (by omega)]
      rfl
    · rw [if_neg h0]
      have hne : wayI n phase (ringAt (madeL n phase most) x k) ≠ 0 := fun h => h0 (w3.1 h)
      have hs : ringAt (madeL n phase most) x (k + 1) = madeAt n phase most (ringAt (madeL n phase most) x k) := madeL_get hb
      obtain ⟨m1, m2⟩ := made_way (most := most) hb hp hm
      have hst := cdiv_step (e := (wayI n phase (ringAt (madeL n phase most) x k)).toNat) (m := most.toNat) (by omega) (by omega)
      have hm2 : (wayI n phase (ringAt (madeL n phase most) x (k + 1))).toNat = (wayI n phase (ringAt (madeL n phase most) x k)).toNat - min most.toNat (wayI n phase (ringAt (madeL n phase most) x k)).toNat := by
        rw [hs, m2]; omega
      rw [← hm2] at hst
      rw [ih (k + 1) (by rw [hs]; exact m1) (by omega), hst]
      congr 1; omega
/-- after the shorter way by the greatest step, rounded up, steps. -/
theorem made_fallsW (hp : 0 ≤ phase ∧ phase < n) (hm : 1 ≤ most) {x : Int} (hx : 0 ≤ x ∧ x < n) : fallsW (madeL n phase most) x phase = some (cdiv (wayI n phase x).toNat most.toNat) := by
  obtain ⟨w1, w2, w3⟩ := way_bd hx hp
  have hc := cdiv_le (m := most.toNat) (by omega) (wayI n phase x).toNat
  have := made_falls (most := most) hp hm x n.toNat 0 hx (by show cdiv (wayI n phase x).toNat most.toNat < n.toNat; omega)
  rw [fallsW, madeL_length, this]
  simp [ringAt]
theorem ringE_zero {r : List Int} (h1 : 1 ≤ r.length) (h2 : r.length ≤ 64) (h : RingP r) : checkRingE r = 0 := by
  rw [checkRingE, if_neg (by
    rw [show ring1E r = 0 from firstE_zero fun x hx => by
      simp only [List.mem_cons, List.not_mem_nil, or_false] at hx
      rcases hx with rfl | rfl
      · rw [show ((r.length : Int) == 0) = false by rw [beq_eq_false_iff_ne]; omega]; rfl
      · rw [show decide ((64 : Int) < (r.length : Int)) = false from decide_eq_false (by omega)]; rfl]
    simp)]
  refine firstE_zero fun x hx => ?_
  obtain ⟨y, hy, rfl⟩ := List.mem_map.1 hx
  have := h y hy
  rw [withinE, if_neg (by omega)]
theorem phase_zero {x m : Int} (h : 0 ≤ x ∧ x < m) : phaseE x m = 0 := by
  rw [phaseE, show decide (x < 0 ∨ m ≤ x) = false from decide_eq_false (by omega)]; rfl
theorem within_zero {x a b : Int} (h : a ≤ x ∧ x ≤ b) : withinE x a b = 0 := by rw [withinE, if_neg (by omega)]
theorem made_ok (hn : 1 ≤ n ∧ n ≤ 64) (hp : 0 ≤ phase ∧ phase < n) (hm : 1 ≤ most ∧ most ≤ 64) : made1E n phase most = 0 ∧ madeR n phase most = madeL n phase most ∧ checkRingE (madeL n phase most) = 0 := by
  have h1 : made1E n phase most = 0 := by
    rw [made1E, within_zero hn, phase_zero hp, within_zero hm]; rfl
  refine ⟨h1, by rw [madeR, if_neg (by rw [h1]; simp)], ringE_zero ?_ ?_ (made_ring hp hm.1)⟩
  · rw [madeL_length]; omega
  · rw [madeL_length]; omega
theorem made_basinL (hp : 0 ≤ phase ∧ phase < n) (hm : 1 ≤ most) (k : Nat) (hk : k ≤ n.toNat) : basinL (madeL n phase most) phase k = upto (fun j => (j : Int)) k := by
  induction k with
  | zero => rfl
  | succ k ih =>
    rw [basinL, made_fallsW hp hm (by omega), upto_succ, ih (by omega)]
    rfl
theorem made_basin (hn : 1 ≤ n ∧ n ≤ 64) (hp : 0 ≤ phase ∧ phase < n) (hm : 1 ≤ most ∧ most ≤ 64) : basin1E (madeL n phase most) phase = 0 ∧ basinR (madeL n phase most) phase = upto (fun j => (j : Int)) n.toNat := by
  obtain ⟨_, _, h3⟩ := made_ok hn hp hm
  have h4 : basin1E (madeL n phase most) phase = 0 := by
    rw [basin1E, h3, phase_zero (by rw [madeL_length]; omega)]; rfl
  refine ⟨h4, ?_⟩
  rw [basinR, if_neg (by rw [h4]; simp), madeL_length, made_basinL hp hm.1 _ (Nat.le_refl _)]
theorem made_locks (hn : 1 ≤ n ∧ n ≤ 64) (hp : 0 ≤ phase ∧ phase < n) (hm : 1 ≤ most ∧ most ≤ 64) {x : Int} (hx : 0 ≤ x ∧ x < n) :
    locksE (madeL n phase most) x phase = 0 ∧ locksR (madeL n phase most) x phase = (cdiv (wayI n phase x).toNat most.toNat : Nat) := by
  obtain ⟨_, _, h3⟩ := made_ok hn hp hm
  have h4 : locks1E (madeL n phase most) x phase = 0 := by
    rw [locks1E, h3, phase_zero (by rw [madeL_length]; omega), phase_zero (by rw [madeL_length]; omega)]; rfl
  have h5 := made_fallsW hp hm.1 hx
  constructor
  · rw [locksE, if_neg (by rw [h4]; simp), h5]; rfl
  · rw [locksR, if_neg (by rw [h4]; simp), h5]; rfl
/-- these numbers prove it. -/
def madeN (n phase most : Int) (m : Nat) : List Int := upto (fun j => ((cdiv (wayI n phase j).toNat most.toNat : Nat) : Int)) m
theorem madeN_get (m k : Nat) (hk : k < m) : (madeN n phase most m)[k]?.getD 0 = ((cdiv (wayI n phase k).toNat most.toNat : Nat) : Int) := by
  unfold madeN upto
  rw [List.getElem?_map, List.getElem?_range hk]; rfl
theorem made_proof (hn : 1 ≤ n ∧ n ≤ 64) (hp : 0 ≤ phase ∧ phase < n) (hm : 1 ≤ most ∧ most ≤ 64) : checkBasinE (madeL n phase most) phase (madeN n phase most n.toNat) = 0 := by
  obtain ⟨_, _, h3⟩ := made_ok hn hp hm
  have hl : (madeN n phase most n.toNat).length = n.toNat := upto_length _ _
  have h4 : basin2E (madeL n phase most) phase (madeN n phase most n.toNat) = 0 := by
    rw [basin2E, h3, phase_zero (by rw [madeL_length]; omega), hl, madeL_length]
    simp [whenE, firstE]
  rw [checkBasinE, if_neg (by rw [h4]; simp), if_pos]
  rw [List.all_eq_true]
  intro k hk
  have hk := List.mem_range.1 hk
  rw [madeL_length] at hk
  have hx : 0 ≤ (k : Int) ∧ (k : Int) < n := by omega
  obtain ⟨w1, w2, w3⟩ := way_bd hx hp
  have hg : (madeL n phase most)[k]?.getD 0 = madeAt n phase most k := by have := madeL_get (n := n) (phase := phase) (most := most) hx; rwa [Int.toNat_natCast] at this
  obtain ⟨m1, m2⟩ := made_way (most := most) hx hp hm.1
  rw [proofB, hg, madeN_get _ _ hk, madeN_get _ _ (by omega : (madeAt n phase most k).toNat < n.toNat), Int.toNat_of_nonneg m1.1]
  by_cases h0 : (k : Int) = phase
  · have := w3.2 h0
    rw [this, show (0 : Int).toNat = 0 from rfl, cdiv_zero (by omega)]
    simp [h0]
  · have hne : wayI n phase k ≠ 0 := fun h => h0 (w3.1 h)
    have hst := cdiv_step (e := (wayI n phase k).toNat) (m := most.toNat) (by omega) (by omega)
    have hm2 : (wayI n phase (madeAt n phase most k)).toNat = (wayI n phase k).toNat - min most.toNat (wayI n phase k).toNat := by
      rw [m2]; omega
    rw [← hm2] at hst
    rw [hst]
    simp [h0]
    omega
end

theorem mem_basinL (r : List Int) (phase : Int) (m : Nat) (x : Int) : x ∈ basinL r phase m ↔ ∃ k, k < m ∧ x = (k : Int) ∧ (fallsW r k phase).isSome = true := by
  induction m with
  | zero => simp [basinL]
  | succ m ih =>
    rw [basinL]
    split
    · rename_i h
      rw [List.mem_append, ih, List.mem_singleton]
      constructor
      · rintro (⟨k, h1, h2, h3⟩ | rfl)
        · exact ⟨k, by omega, h2, h3⟩
        · exact ⟨m, by omega, rfl, h⟩
      · rintro ⟨k, h1, h2, h3⟩
        rcases Nat.lt_or_ge k m with h4 | h4
        · exact .inl ⟨k, h4, h2, h3⟩
        · obtain rfl : k = m := by omega
          exact .inr h2
    · rename_i h
      rw [ih]
      constructor
      · rintro ⟨k, h1, h2, h3⟩
        exact ⟨k, by omega, h2, h3⟩
      · rintro ⟨k, h1, h2, h3⟩
        rcases Nat.lt_or_ge k m with h4 | h4
        · exact ⟨k, h4, h2, h3⟩
        · obtain rfl : k = m := by omega
          exact absurd h3 h
theorem fallL_shift (r : List Int) (x phase : Int) (f : Nat) : ∀ k, (fallL r x phase f (k + 1)).isSome = (fallL r (ringAt r x 1) phase f k).isSome := by
  induction f with
  | zero => intro k; rfl
  | succ f ih =>
    intro k
    rw [fallL, fallL, Nat.add_comm k 1, ringAt_add]
    split
    · rfl
    · rw [Nat.add_comm 1 k]; exact ih (k + 1)
/-- it falls if it is there, or if its next one falls. -/
theorem falls_next {r : List Int} {x phase : Int} (hr : RingP r) (hx : 0 ≤ x ∧ x < r.length) : (fallsW r x phase).isSome = (decide (x = phase) || (fallsW r (ringAt r x 1) phase).isSome) := by
  rw [← falls_more hr hx, fallL, show ringAt r x 0 = x from rfl]
  split
  · rename_i h; simp [h]
  · rename_i h
    rw [fallL_shift]
    simp [h, fallsW]
theorem basin_next {r : List Int} {phase : Int} (hr : RingP r) (hp : 0 ≤ phase ∧ phase < r.length) (i : Nat) (hi : i < r.length) :
    (basinL r phase r.length).contains (i : Int) = (decide ((i : Int) = phase) || (basinL r phase r.length).contains (r[i]?.getD 0)) := by
  have hx : 0 ≤ (i : Int) ∧ (i : Int) < r.length := by omega
  have hn := ringAt_bd hr hx 1
  have hat : ringAt r (i : Int) 1 = r[i]?.getD 0 := by show r[((i : Int)).toNat]?.getD 0 = _; rw [Int.toNat_natCast]
  have hF := falls_next (phase := phase) hr hx
  rw [hat] at hF hn
  have e1 : (basinL r phase r.length).contains (i : Int) = (fallsW r i phase).isSome := by
    rw [Bool.eq_iff_iff, List.contains_iff_mem, mem_basinL]
    exact ⟨fun ⟨k, _, h2, h3⟩ => by rw [h2]; exact h3, fun h => ⟨i, hi, rfl, h⟩⟩
  have e2 : (basinL r phase r.length).contains (r[i]?.getD 0) = (fallsW r (r[i]?.getD 0) phase).isSome := by
    rw [Bool.eq_iff_iff, List.contains_iff_mem, mem_basinL]
    exact ⟨fun ⟨k, _, h2, h3⟩ => by rw [h2]; exact h3, fun h => ⟨(r[i]?.getD 0).toNat, by omega, by omega, by rwa [Int.toNat_of_nonneg hn.1]⟩⟩
  rw [e1, e2, hF]
theorem basin_self {r : List Int} {phase : Int} (hp : 0 ≤ phase ∧ phase < r.length) : (basinL r phase r.length).contains phase = true := by
  rw [List.contains_iff_mem, mem_basinL]
  refine ⟨phase.toNat, by omega, by omega, ?_⟩
  rw [Int.toNat_of_nonneg hp.1, fallsW, show r.length = (r.length - 1) + 1 by omega, fallL, if_pos (show ringAt r phase 0 = phase from rfl)]
  rfl

end Go.Proofs.YtnlmaildmeihgaaGreatDoor

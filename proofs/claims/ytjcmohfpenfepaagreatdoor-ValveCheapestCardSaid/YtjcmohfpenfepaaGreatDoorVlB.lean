/- The law ValveCheapest: plans (plain facts). -/
import Derived.Test.YtjcmohfpenfepaaGreatDoorVcI
import Derived.Test.YtjcmohfpenfepaaGreatDoorVbJ
import Derived.Test.YtjcmohfpenfepaaGreatDoorVcA
namespace Go.Proofs.YtjcmohfpenfepaaGreatDoor
section
set_option linter.unusedSimpArgs false
set_option linter.unusedVariables false
open Go.RowKit
/-- the hours of the first j modules of a plan that are replaced at outage k. -/
def hrs (ms : List Mo) (pl : List Int) (k : Nat) : Nat → Int
 | 0 => 0
 | j + 1 => hrs ms pl k j + (if pl[j]?.getD 0 = (k : Int) then (ms[j]?.getD noM).2.2.2 else 0)
theorem fitK_at (ms : List Mo) (os : List I3) (pl : List Int) (hp : ∀ x ∈ pl, 0 ≤ x) (k : Nat) : ∀ j, j ≤ pl.length → (fitK ms os pl j)[k]? = (os[k]?).map fun o => o.2.1 - hrs ms pl k j
 | 0, _ => by simp [fitK, hrs]
 | j + 1, hj => by
   have ih := fitK_at ms os pl hp k j (by omega)
   have h0 : 0 ≤ pl[j]?.getD 0 := by
    rw [List.getElem?_eq_getElem (show j < pl.length by omega)]
    exact hp _ (List.getElem_mem _)
   simp only [fitK, hrs]
   rw [List.getElem?_set]
   generalize hx : pl[j]?.getD 0 = x at h0 ⊢
   by_cases hk : x = (k : Int)
   ·have hk2 : x.toNat = k := by omega
    rw [if_pos hk2, if_pos hk, hk2, fitK_len]
    by_cases hlt : k < os.length
    ·rw [if_pos hlt, ih, List.getElem?_eq_getElem hlt]
     simp only [Option.map_some, Option.getD_some, Option.some.injEq]
     show _ - (ms[j]?.getD noM).2.2.2 = _
     omega
    ·rw [if_neg hlt, List.getElem?_eq_none (show os.length ≤ k by omega)]; rfl
   ·have hk2 : ¬ x.toNat = k := by omega
    rw [if_neg hk2, if_neg hk, ih]
    simp
theorem fitB_iff {ms : List Mo} {os : List I3} {pl : List Int} (hp : ∀ x ∈ pl, 0 ≤ x) : fitB ms os pl = true ↔ ∀ (k : Nat) (o : I3), os[k]? = some o → hrs ms pl k pl.length ≤ o.2.1 := by
 unfold fitB
 rw [Bool.not_eq_true', List.any_eq_false]
 constructor
 ·intro h k o ho
  have h1 := fitK_at ms os pl hp k pl.length (Nat.le_refl _)
  rw [ho] at h1
  have := h _ (List.mem_of_getElem? h1)
  simp only [decide_eq_true_eq] at this
  omega
 ·intro h x hx
  obtain ⟨k, hk⟩ := List.getElem?_of_mem hx
  have h1 := fitK_at ms os pl hp k pl.length (Nat.le_refl _)
  rw [hk] at h1
  cases ho : os[k]? with
  | none => rw [ho] at h1; cases h1
  | some o =>
    rw [ho] at h1
    simp only [Option.map_some, Option.some.injEq] at h1
    have := h k o ho
    simp only [decide_eq_true_eq]
    omega
theorem hrs_append (ms : List Mo) (pl t : List Int) (k : Nat) : ∀ j, j ≤ pl.length → hrs ms (pl ++ t) k j = hrs ms pl k j
 | 0, _ => rfl
 | j + 1, h => by
   simp only [hrs]
   rw [hrs_append ms pl t k j (by omega), List.getElem?_append_left (by omega)]
theorem hour0 {ms : List Mo} (hm : ∀ m ∈ ms, 1 ≤ m.2.2.2 ∧ m.2.2.2 ≤ 100) (j : Nat) : 0 ≤ (ms[j]?.getD noM).2.2.2 ∧ (ms[j]?.getD noM).2.2.2 ≤ 100 := by
 cases e : ms[j]? with
 | none => simp [noM]
 | some m => have := hm m (List.mem_of_getElem? e); simp only [Option.getD_some]; omega
theorem hrs_mono {ms : List Mo} (hm : ∀ m ∈ ms, 1 ≤ m.2.2.2 ∧ m.2.2.2 ≤ 100) (pl : List Int) (k j d : Nat) : hrs ms pl k j ≤ hrs ms pl k (j + d) := by
 induction d with
 | zero => exact Int.le_refl _
 | succ d ih =>
   have := hour0 hm (j + d)
   rw [← Nat.add_assoc]
   simp only [hrs]
   split <;> omega
theorem fit_pre {ms : List Mo} {os : List I3} (hm : ∀ m ∈ ms, 1 ≤ m.2.2.2 ∧ m.2.2.2 ≤ 100) {b t : List Int} (hp : ∀ x ∈ b ++ t, 0 ≤ x) (h : fitB ms os (b ++ t) = true) : fitB ms os b = true := by
 rw [fitB_iff hp] at h
 rw [fitB_iff (fun x hx => hp x (by simp [hx]))]
 intro k o ho
 have h1 := h k o ho
 have h2 := hrs_mono hm (b ++ t) k b.length t.length
 rw [List.length_append] at h1
 rw [hrs_append ms b t k _ (Nat.le_refl _)] at h2
 omega
/-- what is a plan. -/
structure PlOk (ms : List Mo) (os : List I3) (pl : List Int) : Prop where
 len : pl.length = ms.length
 rng : ∀ (i : Nat) (k : Int), pl[i]? = some k → (0 ≤ k ∧ k < os.length) ∧ perB (os[k.toNat]?.getD (0, 0, 0)) (ms[i]?.getD noM) = true
 fit : fitB ms os pl = true
theorem PlOk.pos {ms : List Mo} {os : List I3} {pl : List Int} (h : PlOk ms os pl) : ∀ x ∈ pl, 0 ≤ x := fun x hx => by
 obtain ⟨i, hi⟩ := List.getElem?_of_mem hx
 exact (h.rng i x hi).1.1
theorem plnG_zero {ms : List Mo} {os : List I3} {i : Nat} {k : Int} : plnG ms os i k = 0 ↔ (0 ≤ k ∧ k < os.length) ∧ perB (os[k.toNat]?.getD (0, 0, 0)) (ms[i]?.getD noM) = true := by
 unfold plnG
 split
 ·constructor
  ·intro h; cases h
  ·rintro ⟨h, -⟩; omega
 ·rw [whenE_zero (by decide), Bool.not_eq_false']
  constructor
  ·intro h; exact ⟨by omega, h⟩
  ·exact fun h => h.2
theorem plnE_iff {ms : List Mo} {os : List I3} {pl : List Int} : plnE ms os pl = 0 ↔ PlOk ms os pl := by
 unfold plnE
 constructor
 ·intro h
  split at h
  ·next hl =>
   split at h
   ·next h2 =>
    rw [whenE_zero (by decide), Bool.not_eq_false'] at h
    exact ⟨hl, fun i k hk => plnG_zero.1 (eachE_zero h2 i k hk), h⟩
   ·next h2 => exact absurd h h2
  ·cases h
 ·intro h
  rw [if_pos h.len]
  have h2 : plnE2 ms os pl = 0 := eachE_all (fun i k hk => plnG_zero.2 (h.rng i k hk))
  rw [if_pos h2, whenE_zero (by decide), h.fit]; rfl
theorem extL_in {ms : List Mo} {os : List I3} (hm : ∀ m ∈ ms, 1 ≤ m.2.2.2 ∧ m.2.2.2 ≤ 100) : ∀ (n : Nat) (b t : List Int), t.length = n → PlOk ms os (b ++ t) → b ++ t ∈ extL ms os n b
 | 0, b, t, hl, h => by
   obtain rfl : t = [] := List.eq_nil_of_length_eq_zero hl
   rw [List.append_nil] at h ⊢
   rw [extL_end h.fit]; simp
 | n + 1, b, t, hl, h => by
   cases t with
   | nil => cases hl
   | cons k t =>
     have hb : fitB ms os b = true := fit_pre hm h.pos h.fit
     rw [extL_yes hb]
     have hk := h.rng b.length k (by rw [List.getElem?_append_right (Nat.le_refl _), Nat.sub_self]; rfl)
     unfold extK
     refine List.mem_flatMap.2 ⟨k.toNat, List.mem_range.2 (by omega), ?_⟩
     rw [if_pos hk.2, show ((k.toNat : Nat) : Int) = k by omega]
     have e : b ++ k :: t = (b ++ [k]) ++ t := by simp
     rw [e] at h ⊢
     exact extL_in hm n (b ++ [k]) t (by simpa using hl) h
theorem extL_per {ms : List Mo} {os : List I3} : ∀ {n : Nat} {b x : List Int}, x ∈ extL ms os n b → (∃ t, x = b ++ t) ∧ ∀ (i : Nat) (k : Int), b.length ≤ i → x[i]? = some k → (0 ≤ k ∧ k < os.length) ∧ perB (os[k.toNat]?.getD (0, 0, 0)) (ms[i]?.getD noM) = true
 | 0, b, x, h => by
   rw [extL] at h
   split at h
   ·rw [List.mem_singleton] at h; subst h
    exact ⟨⟨[], by simp⟩, fun i k hi hk => by
     have := (List.getElem?_eq_some_iff.1 hk).1
     omega⟩
   ·cases h
 | n + 1, b, x, h => by
   rw [extL] at h
   split at h
   ·obtain ⟨j, hj, hx⟩ := List.mem_flatMap.1 h
    split at hx
    ·next hper =>
     obtain ⟨⟨t, ht⟩, h2⟩ := extL_per hx
     rw [List.mem_range] at hj
     refine ⟨⟨(j : Int) :: t, by rw [ht]; simp⟩, fun i k hi hk => ?_⟩
     by_cases hib : i = b.length
     ·subst hib
      rw [ht, List.append_assoc, List.getElem?_append_right (Nat.le_refl _), Nat.sub_self] at hk
      simp at hk
      subst hk
      exact ⟨by omega, by simpa using hper⟩
     ·exact h2 i k (by simp; omega) hk
    ·cases hx
   ·cases h
theorem plansL_iff {ms : List Mo} {os : List I3} (hm : ∀ m ∈ ms, 1 ≤ m.2.2.2 ∧ m.2.2.2 ≤ 100) {pl : List Int} : pl ∈ plansL ms os ↔ PlOk ms os pl := by
 constructor
 ·intro h
  obtain ⟨h1, h2, -⟩ := plansL_mem h
  obtain ⟨-, h3⟩ := extL_per (b := []) h
  exact ⟨h2, fun i k hk => h3 i k (by simp) hk, h1⟩
 ·intro h
  exact extL_in hm ms.length [] pl h.len h
/-- the best plan. -/
theorem plan_some {ms : List Mo} {os : List I3} (hm : ∀ m ∈ ms, 1 ≤ m.2.2.2 ∧ m.2.2.2 ≤ 100) {y : List Int} (h : planO ms os = some y) : PlOk ms os y ∧ ∀ x, PlOk ms os x → costL os y ≤ costL os x :=
 ⟨(plansL_iff hm).1 (betO_mem h), fun x hx => betO_le h x ((plansL_iff hm).2 hx)⟩
theorem plan_none {ms : List Mo} {os : List I3} (hm : ∀ m ∈ ms, 1 ≤ m.2.2.2 ∧ m.2.2.2 ≤ 100) (h : planO ms os = none) (x : List Int) : ¬ PlOk ms os x := by
 intro hx
 have h1 := (plansL_iff hm).2 hx
 rw [betO_none h] at h1
 cases h1
theorem plan_is {ms : List Mo} {os : List I3} (hm : ∀ m ∈ ms, 1 ≤ m.2.2.2 ∧ m.2.2.2 ≤ 100) {x : List Int} (h : PlOk ms os x) : ∃ y, planO ms os = some y := by
 cases e : planO ms os with
 | none => exact absurd h (plan_none hm e x)
 | some y => exact ⟨y, rfl⟩
/-- costs. -/
theorem costK_take (os : List I3) (pl : List Int) (n : Nat) : ∀ k, k ≤ n → costK (os.take n) pl k = costK os pl k
 | 0, _ => rfl
 | k + 1, h => by
   simp only [costK]
   rw [costK_take os pl n k (by omega), List.getElem?_take, if_pos (show k < n by omega)]
theorem costK_end (os : List I3) (pl : List Int) (n : Nat) (hp : ∀ x ∈ pl, x < (n : Int)) (d : Nat) : costK os pl (n + d) = costK os pl n := by
 induction d with
 | zero => rfl
 | succ d ih =>
   rw [← Nat.add_assoc]
   simp only [costK]
   rw [ih, if_neg, Int.add_zero]
   rw [List.any_eq_true]
   rintro ⟨x, hx, e⟩
   have := hp x hx
   simp only [beq_iff_eq] at e
   omega
theorem cost_fewer {os : List I3} {pl : List Int} {n : Nat} (hn : n ≤ os.length) (hp : ∀ x ∈ pl, x < (n : Int)) : costL (os.take n) pl = costL os pl := by
 unfold costL
 rw [List.length_take, Nat.min_eq_left hn, costK_take os pl n n (Nat.le_refl _)]
 have := costK_end os pl n hp (os.length - n)
 rw [show n + (os.length - n) = os.length by omega] at this
 exact this.symm
theorem costK_sub {os : List I3} (ho : ∀ o ∈ os, 0 ≤ o.2.2 ∧ o.2.2 ≤ 1000000) {p q : List Int} (h : ∀ x ∈ p, x ∈ q) : ∀ k, costK os p k ≤ costK os q k
 | 0 => Int.le_refl _
 | k + 1 => by
   have ih := costK_sub ho h k
   have h2 : 0 ≤ (os[k]?.getD (0, 0, 0)).2.2 := by
    cases hq : os[k]? with
    | none => simp
    | some y => exact (ho y (List.mem_of_getElem? hq)).1
   simp only [costK]
   by_cases hp : (p.any fun y => (k : Int) == y) = true
   ·have hq : (q.any fun y => (k : Int) == y) = true := by
     rw [List.any_eq_true] at hp ⊢
     obtain ⟨x, hx, e⟩ := hp
     exact ⟨x, h x hx, e⟩
    rw [if_pos hp, if_pos hq]; omega
   ·rw [if_neg hp]; split <;> omega
/-- a plan for fewer outages is one for all. -/
theorem plOk_more {ms : List Mo} {os : List I3} {n : Nat} (hn : n ≤ os.length) {x : List Int} (hm : ∀ m ∈ ms, 1 ≤ m.2.2.2 ∧ m.2.2.2 ≤ 100) (ho : ∀ o ∈ os, 0 ≤ o.2.1) (h : PlOk ms (os.take n) x) : PlOk ms os x := by
 have hlt : ∀ y ∈ x, 0 ≤ y ∧ y < (n : Int) := fun y hy => by
  obtain ⟨i, hi⟩ := List.getElem?_of_mem hy
  have := (h.rng i y hi).1
  rw [List.length_take] at this
  omega
 refine ⟨h.len, fun i k hk => ?_, ?_⟩
 ·have h1 := h.rng i k hk
  have h2 := hlt k (List.mem_of_getElem? hk)
  rw [List.getElem?_take, if_pos (show k.toNat < n by omega), List.length_take] at h1
  exact ⟨by omega, h1.2⟩
 ·rw [fitB_iff (fun y hy => (hlt y hy).1)]
  intro k o hk
  by_cases hkn : k < n
  ·exact (fitB_iff (fun y hy => (hlt y hy).1)).1 h.fit k o (by rw [List.getElem?_take, if_pos hkn]; exact hk)
  ·have hz : ∀ j, j ≤ x.length → hrs ms x k j = 0 := by
    intro j
    induction j with
    | zero => intro _; rfl
    | succ j ih =>
      intro hj
      simp only [hrs]
      rw [ih (by omega), if_neg]
      ·rfl
      ·intro e
       rw [List.getElem?_eq_getElem (show j < x.length by omega)] at e
       have := hlt _ (List.getElem_mem (show j < x.length by omega))
       simp only [Option.getD_some] at e
       omega
   rw [hz _ (Nat.le_refl _)]
   exact ho o (List.mem_of_getElem? hk)
theorem hrs_take (ms : List Mo) (pl : List Int) (k n : Nat) : ∀ j, j ≤ n → hrs (ms.take n) pl k j = hrs ms pl k j
 | 0, _ => rfl
 | j + 1, h => by
   simp only [hrs]
   rw [hrs_take ms pl k n j (by omega), List.getElem?_take, if_pos (show j < n by omega)]
/-- a plan's beginning is one for the first modules. -/
theorem plOk_less {ms : List Mo} {os : List I3} {n : Nat} (hn : n ≤ ms.length) {x : List Int} (hm : ∀ m ∈ ms, 1 ≤ m.2.2.2 ∧ m.2.2.2 ≤ 100) (h : PlOk ms os x) : PlOk (ms.take n) os (x.take n) := by
 have hl : (x.take n).length = n := by rw [List.length_take, h.len]; omega
 have hpt : ∀ y ∈ x.take n, 0 ≤ y := fun y hy => h.pos y (List.mem_of_mem_take hy)
 refine ⟨by rw [hl, List.length_take]; omega, fun i k hk => ?_, ?_⟩
 ·have hi := (List.getElem?_eq_some_iff.1 hk).1
  rw [hl] at hi
  rw [List.getElem?_take, if_pos hi] at hk ⊢
  exact h.rng i k hk
 ·have hf : fitB ms os (x.take n) = true := by
   have := h.fit
   rw [← List.take_append_drop n x] at this
   exact fit_pre hm (by rw [List.take_append_drop]; exact h.pos) this
  rw [fitB_iff hpt] at hf ⊢
  intro k o hk
  have := hf k o hk
  rw [hl] at this ⊢
  rw [hrs_take ms _ k n n (Nat.le_refl _)]
  exact this
end
section
set_option linter.unusedSimpArgs false
set_option linter.unusedVariables false
open Go.RowKit
theorem minN_mem {l : List Int} (k : Nat) (hk : k < l.length) : minN l k ∈ l := by
 induction k with
 | zero =>
   unfold minN
   rw [List.getElem?_eq_getElem hk]; exact List.getElem_mem hk
 | succ k ih =>
   unfold minN
   split
   ·rw [List.getElem?_eq_getElem hk]; exact List.getElem_mem hk
   ·exact ih (by omega)
theorem minW_mem {l : List Int} (h : 0 < l.length) : minW l ∈ l := minN_mem _ (by omega)
theorem priK_pre (ms : List Mo) (os : List I3) (i d : Nat) : ∃ t, priK ms os (i + d) = priK ms os i ++ t := by
 induction d with
 | zero => exact ⟨[], by simp⟩
 | succ d ih =>
   obtain ⟨t, ht⟩ := ih
   refine ⟨t ++ [minW (priL ms os (i + d) (priK ms os (i + d)))], ?_⟩
   rw [← Nat.add_assoc]
   simp only [priK]
   rw [ht, List.append_assoc]
theorem chgK_mono (o : I3) (ms : List Mo) {ps : List Int} (hp : ∀ x ∈ ps, 0 ≤ x) (k d : Nat) : chgK o ms ps k ≤ chgK o ms ps (k + d) := by
 induction d with
 | zero => exact Int.le_refl _
 | succ d ih =>
   have h2 : 0 ≤ ps[k + d]?.getD 0 := by
    cases hq : ps[k + d]? with
    | none => simp
    | some y => exact hp y (List.mem_of_getElem? hq)
   rw [← Nat.add_assoc]
   simp only [chgK]
   split <;> omega
theorem chgK_set (o : I3) (ms : List Mo) (ps : List Int) {i : Nat} (hi : i < ps.length) (x : Int) (hper : perB o (ms[i]?.getD noM) = true) : ∀ k, chgK o ms (ps.set i (ps[i]?.getD 0 + x)) k = chgK o ms ps k + (if i < k then x else 0)
 | 0 => by simp [chgK]
 | k + 1 => by
   simp only [chgK]
   rw [chgK_set o ms ps hi x hper k, List.getElem?_set]
   by_cases hk : i = k
   ·subst hk
    rw [if_pos rfl, if_pos hi, if_neg (Nat.lt_irrefl i), if_pos (Nat.lt_succ_self i)]
    have hper' : perB o (ms[i]?.getD (⟨#[]⟩, 0, 0, 0)) = true := hper
    rw [if_pos hper', if_pos hper']
    simp only [Option.getD_some]
    omega
   ·rw [if_neg hk]
    by_cases h1 : i < k
    ·rw [if_pos h1, if_pos (show i < k + 1 by omega)]; omega
    ·rw [if_neg h1, if_neg (show ¬ i < k + 1 by omega)]; omega
/-- what the laws of prices need. -/
structure PrOk (ms : List Mo) (os : List I3) : Prop where
 cost : ∀ o ∈ os, 0 ≤ o.2.2 ∧ o.2.2 ≤ 1000000
 perm : ∀ j, j < ms.length → permL os (ms[j]?.getD noM) ≠ []
theorem pri_tight {ms : List Mo} {os : List I3} (h : PrOk ms os) {i : Nat} (hi : i < ms.length) :
 ∃ o ∈ os, perB o (ms[i]?.getD noM) = true ∧ o.2.2 ≤ chgS o ms (priK ms os ms.length) := by
 have hne := h.perm i hi
 have hl : 0 < (priL ms os i (priK ms os i)).length := by
  unfold priL; rw [List.length_map]; exact List.length_pos_iff.2 hne
 obtain ⟨o, ho, e⟩ := List.mem_map.1 (minW_mem hl)
 replace e : o.2.2 - chgS o ms (priK ms os i) = minW (priL ms os i (priK ms os i)) := e
 obtain ⟨hom, hper⟩ := List.mem_filter.1 ho
 refine ⟨o, hom, hper, ?_⟩
 have e1 : chgS o ms (priK ms os (i + 1)) = o.2.2 := by
  simp only [priK]
  rw [chgS_snoc, priK_len, if_pos hper, ← e]; omega
 obtain ⟨t, ht⟩ := priK_pre ms os (i + 1) (ms.length - (i + 1))
 rw [show i + 1 + (ms.length - (i + 1)) = ms.length by omega] at ht
 have hpos := (priK_ok h.cost ms.length (Nat.le_refl _) (fun j hj => h.perm j hj)).1
 have h1 := chgK_mono o ms (ps := priK ms os ms.length) (fun x hx => (hpos x hx).1) (i + 1) (ms.length - (i + 1))
 rw [show i + 1 + (ms.length - (i + 1)) = ms.length by omega] at h1
 unfold chgS
 rw [priK_len]
 rw [ht, chgK_append o ms _ t (i + 1) (by rw [priK_len]; exact Nat.le_refl _), ← ht] at h1
 unfold chgS at e1
 rw [priK_len] at e1
 omega
theorem pri_dear {ms : List Mo} {os : List I3} (h : PrOk ms os) {i : Nat} (hi : i < ms.length) :
 prE ms os ((priK ms os ms.length).set i ((priK ms os ms.length)[i]?.getD 0 + 1)) ≠ 0 := by
 obtain ⟨o, hom, hper, hle⟩ := pri_tight h hi
 have hlen : i < (priK ms os ms.length).length := by rw [priK_len]; exact hi
 have hA : prA ms os ((priK ms os ms.length).set i ((priK ms os ms.length)[i]?.getD 0 + 1)) = true := by
  unfold prA
  rw [List.any_eq_true]
  refine ⟨o, hom, ?_⟩
  rw [decide_eq_true_eq]
  unfold chgS at hle ⊢
  rw [List.length_set, chgK_set o ms _ hlen 1 hper, if_pos hlen]
  omega
 unfold prE
 split
 ·split
  ·decide
  ·next h2 => exact h2
 ·next h1 => exact h1
theorem pri_proof {ms : List Mo} {os : List I3} (h : PrOk ms os) (hb : bothE ms os = 0) : prE ms os (priK ms os ms.length) = 0 := by
 obtain ⟨h1, h2⟩ := priK_ok h.cost ms.length (Nat.le_refl _) (fun j hj => h.perm j hj)
 have a1 : prE1 ms os (priK ms os ms.length) = 0 := by
  unfold prE1
  rw [hb, priK_len]
  simp only [bne_self_eq_false]; rfl
 have a2 : prE2 (priK ms os ms.length) = 0 := eachE_all (fun k x hx => withinE_zero.2 (h1 x (List.mem_of_getElem? hx)))
 have a3 : prA ms os (priK ms os ms.length) = false := by
  unfold prA
  rw [List.any_eq_false]
  intro o ho
  have := (h2 o ho).2
  simp only [decide_eq_true_eq]; omega
 unfold prE
 rw [if_pos a1, if_pos a2, a3]; rfl
theorem prOk_of {ms : List Mo} {os : List I3} {x : List Int} (ho : ∀ o ∈ os, 0 ≤ o.2.2 ∧ o.2.2 ≤ 1000000) (h : PlOk ms os x) : PrOk ms os := by
 refine ⟨ho, fun j hj e => ?_⟩
 have hx : x[j]? = some (x[j]'(by rw [h.len]; exact hj)) := List.getElem?_eq_getElem _
 obtain ⟨h1, h2⟩ := h.rng j _ hx
 generalize x[j]'(by rw [h.len]; exact hj) = k at h1 h2
 have hk : k.toNat < os.length := by omega
 rw [List.getElem?_eq_getElem hk] at h2
 unfold permL at e
 rw [List.filter_eq_nil_iff] at e
 exact e _ (List.getElem_mem hk) h2
theorem pri_is {ms : List Mo} {os : List I3} (h : PrOk ms os) (hb : bothE ms os = 0) : priE ms os = 0 ∧ priR ms os = priK ms os ms.length := by
 have e : priE ms os = 0 := by
  unfold priE
  rw [if_pos hb, priB_none h.perm]; rfl
 exact ⟨e, by unfold priR; rw [if_pos e]⟩
/-- sums over all outages. -/
def sigK (f : Nat → Int) : Nat → Int
 | 0 => 0
 | k + 1 => sigK f k + f k
theorem sigK_add (f g : Nat → Int) : ∀ k, sigK (fun k => f k + g k) k = sigK f k + sigK g k
 | 0 => rfl
 | k + 1 => by simp only [sigK]; rw [sigK_add f g k]; omega
theorem sigK_one (x c : Int) (h : 0 ≤ x) : ∀ (K : Nat), sigK (fun k => if x = (k : Int) then c else 0) K = if x < (K : Int) then c else 0
 | 0 => by simp only [sigK]; rw [if_neg (by omega)]
 | K + 1 => by
   simp only [sigK]
   rw [sigK_one x c h K]
   by_cases h1 : x < (K : Int)
   ·rw [if_pos h1, if_neg (by omega), if_pos (by omega)]; omega
   ·by_cases h2 : x = (K : Int)
    ·rw [if_neg h1, if_pos h2, if_pos (by omega)]; omega
    ·rw [if_neg h1, if_neg h2, if_neg (by omega)]; rfl
theorem sigK_le {f g : Nat → Int} : ∀ {K : Nat}, (∀ k, k < K → f k ≤ g k) → sigK f K ≤ sigK g K
 | 0, _ => Int.le_refl _
 | K + 1, h => by
   have := sigK_le (K := K) (fun k hk => h k (by omega))
   have := h K (by omega)
   simp only [sigK]; omega
/-- the prices of the first j modules that a plan puts to outage k. -/
def grp (r pl : List Int) (k : Nat) : Nat → Int
 | 0 => 0
 | j + 1 => grp r pl k j + (if pl[j]?.getD 0 = (k : Int) then r[j]?.getD 0 else 0)
theorem sig_grp (r pl : List Int) (K : Nat) : ∀ j, (∀ i, i < j → 0 ≤ pl[i]?.getD 0 ∧ pl[i]?.getD 0 < (K : Int)) → sigK (fun k => grp r pl k j) K = sumK r j
 | 0, _ => by
   have : ∀ K, sigK (fun _ => 0) K = 0 := fun K => by
    induction K with
    | zero => rfl
    | succ K ih => simp only [sigK]; rw [ih]; rfl
   exact this K
 | j + 1, h => by
   have ih := sig_grp r pl K j (fun i hi => h i (by omega))
   have hj := h j (by omega)
   simp only [grp, sumK]
   rw [sigK_add, ih, sigK_one _ _ hj.1, if_pos hj.2]
theorem grp_le {ms : List Mo} {os : List I3} {r pl : List Int} (hr : ∀ x ∈ r, 0 ≤ x) (h : PlOk ms os pl) (k : Nat) : ∀ j, j ≤ pl.length → grp r pl k j ≤ chgK (os[k]?.getD (0, 0, 0)) ms r j
 | 0, _ => Int.le_refl _
 | j + 1, hj => by
   have ih := grp_le hr h k j (by omega)
   have h0 : 0 ≤ r[j]?.getD 0 := by
    cases hq : r[j]? with
    | none => simp
    | some y => exact hr y (List.mem_of_getElem? hq)
   simp only [grp, chgK]
   have hx : pl[j]? = some (pl[j]'(by omega)) := List.getElem?_eq_getElem _
   have h1 := h.rng j _ hx
   rw [hx]
   simp only [Option.getD_some]
   generalize pl[j]'(by omega) = x at h1 ⊢
   by_cases hk : x = (k : Int)
   ·rw [if_pos hk]
    have : perB (os[k]?.getD (0, 0, 0)) (ms[j]?.getD (⟨#[]⟩, 0, 0, 0)) = true := by
     have := h1.2
     rw [show x.toNat = k by omega] at this
     exact this
    rw [if_pos this]; omega
   ·rw [if_neg hk]; split <;> omega
theorem grp_none {r pl : List Int} {k : Nat} (hk : (pl.any fun y => (k : Int) == y) = false) : ∀ j, j ≤ pl.length → grp r pl k j = 0
 | 0, _ => rfl
 | j + 1, hj => by
   simp only [grp]
   rw [grp_none hk j (by omega), if_neg]
   ·rfl
   ·rw [List.getElem?_eq_getElem (show j < pl.length by omega)]
    intro e
    rw [List.any_eq_false] at hk
    refine hk _ (List.getElem_mem (show j < pl.length by omega)) ?_
    simp only [Option.getD_some] at e
    rw [beq_iff_eq]; exact e.symm
theorem costK_sig (os : List I3) (pl : List Int) : ∀ k, costK os pl k = sigK (fun k => if (pl.any fun y => (k : Int) == y) = true then (os[k]?.getD (0, 0, 0)).2.2 else 0) k
 | 0 => rfl
 | k + 1 => by simp only [costK, sigK]; rw [costK_sig os pl k]
/-- prices prove a bound of the cost of every plan. -/
theorem pri_bound {ms : List Mo} {os : List I3} {pl : List Int} (h : PrOk ms os) (hp : PlOk ms os pl) : sumK (priK ms os ms.length) ms.length ≤ costL os pl := by
 obtain ⟨h1, h2⟩ := priK_ok h.cost ms.length (Nat.le_refl _) (fun j hj => h.perm j hj)
 have hs := sig_grp (priK ms os ms.length) pl os.length ms.length (fun i hi => by
  rw [← hp.len] at hi
  have hx : pl[i]? = some (pl[i]'hi) := List.getElem?_eq_getElem _
  rw [hx]
  exact (hp.rng i _ hx).1)
 rw [← hs]
 unfold costL
 rw [costK_sig]
 refine sigK_le (fun k hk => ?_)
 have hlen := hp.len
 show grp (priK ms os ms.length) pl k ms.length ≤ _
 by_cases hu : (pl.any fun y => (k : Int) == y) = true
 ·rw [if_pos hu]
  have a := grp_le (fun x hx => (h1 x hx).1) hp k ms.length (by omega)
  rw [List.getElem?_eq_getElem hk] at a ⊢
  have b := (h2 _ (List.getElem_mem hk)).2
  unfold chgS at b
  rw [priK_len] at b
  simp only [Option.getD_some] at a ⊢
  exact Int.le_trans a b
 ·rw [if_neg hu, grp_none (Bool.eq_false_iff.2 hu) _ (by omega)]
  exact Int.le_refl _
/-- spares. -/
def leF (k : Int) (i : Int) : Int := if i ≤ k then 1 else 0
theorem isF_zero {pl : List Int} (hp : ∀ x ∈ pl, 0 ≤ x) : sumF (isF ((0 : Nat) : Int)) pl = sumF (leF ((0 : Nat) : Int)) pl := by
 induction pl with
 | nil => rfl
 | cons x l ih =>
   have h0 := hp x (by simp)
   show isF ((0 : Nat) : Int) x + sumF _ l = leF ((0 : Nat) : Int) x + sumF _ l
   rw [ih (fun y hy => hp y (by simp [hy]))]
   have : isF ((0 : Nat) : Int) x = leF ((0 : Nat) : Int) x := by
    unfold isF leF
    split <;> split <;> omega
   rw [this]
theorem isF_succ (k : Nat) (pl : List Int) : sumF (leF (k : Int)) pl + sumF (isF ((k + 1 : Nat) : Int)) pl = sumF (leF ((k + 1 : Nat) : Int)) pl := by
 induction pl with
 | nil => rfl
 | cons x l ih =>
   show leF (k : Int) x + sumF _ l + (isF ((k + 1 : Nat) : Int) x + sumF _ l) = leF ((k + 1 : Nat) : Int) x + sumF _ l
   have e : leF (k : Int) x + isF ((k + 1 : Nat) : Int) x = leF ((k + 1 : Nat) : Int) x := by
    unfold isF leF
    split <;> split <;> split <;> omega
   omega
theorem used_le {pl : List Int} (hp : ∀ x ∈ pl, 0 ≤ x) : ∀ (k : Nat), usedK pl (k + 1) = sumF (leF (k : Int)) pl
 | 0 => by
   simp only [usedK, Int.zero_add]
   exact isF_zero hp
 | k + 1 => by
   have e : usedK pl (k + 1 + 1) = usedK pl (k + 1) + sumF (isF ((k + 1 : Nat) : Int)) pl := rfl
   rw [e, used_le hp k]
   exact isF_succ k pl
theorem leF_rng (pl : List Int) (k : Int) : 0 ≤ sumF (leF k) pl ∧ sumF (leF k) pl ≤ pl.length := by
 have := sumF_rng (f := leF k) (l := pl) (lo := 0) (hi := 1) (fun x _ => by unfold leF; split <;> omega)
 omega
theorem sprK_ge (os : List I3) (pl : List Int) (ds : List P2) : ∀ {n k : Nat}, k < n → usedK pl (k + 1) - therS (os[k]?.getD (0, 0, 0)).1 ds ≤ sprK os pl ds n
 | 0, _, h => by omega
 | n + 1, k, h => by
   simp only [sprK]
   by_cases hk : k = n
   ·subst hk; unfold mxI; omega
   ·have := sprK_ge os pl ds (n := n) (k := k) (by omega)
    unfold mxI; omega
theorem sprK_at (os : List I3) (pl : List Int) (ds : List P2) : ∀ {n : Nat}, 0 < sprK os pl ds n → ∃ k, k < n ∧ sprK os pl ds n = usedK pl (k + 1) - therS (os[k]?.getD (0, 0, 0)).1 ds
 | 0, h => by simp [sprK] at h
 | n + 1, h => by
   simp only [sprK] at h ⊢
   by_cases hc : sprK os pl ds n ≤ usedK pl (n + 1) - therS (os[n]?.getD (0, 0, 0)).1 ds
   ·refine ⟨n, by omega, ?_⟩
    unfold mxI; omega
   ·have hm : mxI (sprK os pl ds n) (usedK pl (n + 1) - therS (os[n]?.getD (0, 0, 0)).1 ds) = sprK os pl ds n := by unfold mxI; omega
    rw [hm] at h ⊢
    obtain ⟨k, hk, e⟩ := sprK_at os pl ds h
    exact ⟨k, by omega, e⟩
/-- what the law asks of a start: what is left at outage k. -/
def leftK (os : List I3) (pl : List Int) (ds : List P2) (start : Int) (k : Nat) : Int := start + therS (os[k]?.getD (0, 0, 0)).1 ds - sumF (leF (k : Int)) pl
theorem spr_enough (os : List I3) {pl : List Int} (hp : ∀ x ∈ pl, 0 ≤ x) (ds : List P2) {k : Nat} (hk : k < os.length) : 0 ≤ leftK os pl ds (sprK os pl ds os.length) k := by
 have := sprK_ge os pl ds hk
 rw [used_le hp] at this
 unfold leftK; omega
theorem spr_fewer (os : List I3) {pl : List Int} (hp : ∀ x ∈ pl, 0 ≤ x) (ds : List P2) (h : 0 < sprK os pl ds os.length) : ∃ k, k < os.length ∧ leftK os pl ds (sprK os pl ds os.length - 1) k < 0 := by
 obtain ⟨k, hk, e⟩ := sprK_at os pl ds h
 rw [used_le hp] at e
 exact ⟨k, hk, by unfold leftK; omega⟩
theorem spr_most (os : List I3) {pl : List Int} (hp : ∀ x ∈ pl, 0 ≤ x) (ds : List P2) (hd : ∀ d ∈ ds, 1 ≤ d.2 ∧ d.2 ≤ 100) (hl : ds.length ≤ 64) (n : Nat) : 0 ≤ sprK os pl ds n ∧ sprK os pl ds n ≤ pl.length := by
 refine ⟨(sprK_rng os pl ds hd hl n).1, ?_⟩
 by_cases h : 0 < sprK os pl ds n
 ·obtain ⟨k, -, e⟩ := sprK_at os pl ds h
  rw [used_le hp] at e
  have h1 := leF_rng pl (k : Int)
  have h2 := therS_rng (os[k]?.getD (0, 0, 0)).1 hd hl ds.length
  rw [List.take_length] at h2
  unfold therS at e
  omega
 ·omega
/-- parts of valid lists are valid. -/
theorem outE_take {os : List I3} (h : outE os = 0) (n : Nat) : outE (os.take n) = 0 := by
 have hl := (outE_ok h).1
 have he : eachE (outG os) os = 0 := by
  unfold outE at h
  rw [if_neg (by omega)] at h; exact h
 unfold outE
 rw [if_neg (by rw [List.length_take]; omega)]
 refine eachE_all (fun k x hx => ?_)
 have hk := (List.getElem?_eq_some_iff.1 hx).1
 rw [List.length_take] at hk
 have hx' : os[k]? = some x := by rw [List.getElem?_take, if_pos (by omega)] at hx; exact hx
 have := eachE_zero he k x hx'
 unfold outG at this ⊢
 have e : prevO (os.take n) k = prevO os k := by
  unfold prevO
  split
  ·rfl
  ·rw [List.getElem?_take, if_pos (by omega)]
 rw [e]; exact this
theorem modsE_take {ms : List Mo} (h : modsE ms = 0) (n : Nat) : modsE (ms.take n) = 0 := by
 have hl := (modsE_ok h).1
 have he : eachE (modG ms) ms = 0 := by
  unfold modsE at h
  rw [if_neg (by omega)] at h; exact h
 unfold modsE
 rw [if_neg (by rw [List.length_take]; omega)]
 refine eachE_all (fun k x hx => ?_)
 have hk := (List.getElem?_eq_some_iff.1 hx).1
 rw [List.length_take] at hk
 have hx' : ms[k]? = some x := by rw [List.getElem?_take, if_pos (by omega)] at hx; exact hx
 have := eachE_zero he k x hx'
 unfold modG at this ⊢
 rw [List.take_take, Nat.min_eq_left (by omega)]
 exact this
theorem bothE_of {ms : List Mo} {os : List I3} (h1 : modsE ms = 0) (h2 : outE os = 0) : bothE ms os = 0 := by
 unfold bothE
 rw [h1, h2]; rfl
end
end Go.Proofs.YtjcmohfpenfepaaGreatDoor

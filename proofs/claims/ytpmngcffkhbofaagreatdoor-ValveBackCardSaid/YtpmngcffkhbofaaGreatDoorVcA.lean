/- Package valve: plans, the best one, votes (plain facts). -/
import Derived.Test.YtpmngcffkhbofaaGreatDoorVaY
namespace Go.Proofs.YtpmngcffkhbofaaGreatDoor
set_option linter.unusedSimpArgs false
set_option linter.unusedVariables false
open Go.RowKit
/-- all plans of n modules more that begin so, the first one first. -/
def extL (ms : List Mo) (os : List I3) : Nat → List Int → List (List Int)
 | 0, b => if fitB ms os b = true then [b] else []
 | n + 1, b => if fitB ms os b = true then (List.range os.length).flatMap (fun (k : Nat) => if perB (os[k]?.getD (0, 0, 0)) (ms[b.length]?.getD noM) = true then extL ms os n (b ++ [(k : Int)]) else []) else []
/-- those that go on with one of the first k outages. -/
def extK (ms : List Mo) (os : List I3) (n : Nat) (b : List Int) (k : Nat) : List (List Int) :=
 (List.range k).flatMap (fun (k : Nat) => if perB (os[k]?.getD (0, 0, 0)) (ms[b.length]?.getD noM) = true then extL ms os n (b ++ [(k : Int)]) else [])
theorem extK_succ (ms : List Mo) (os : List I3) (n : Nat) (b : List Int) (k : Nat) : extK ms os n b (k + 1) = extK ms os n b k ++ (if perB (os[k]?.getD (0, 0, 0)) (ms[b.length]?.getD noM) = true then extL ms os n (b ++ [(k : Int)]) else []) := by
 unfold extK
 rw [List.range_succ, List.flatMap_append]; simp
theorem extL_no {ms : List Mo} {os : List I3} {n : Nat} {b : List Int} (h : fitB ms os b = false) : extL ms os n b = [] := by
 cases n <;> simp [extL, h]
theorem extL_yes {ms : List Mo} {os : List I3} {n : Nat} {b : List Int} (h : fitB ms os b = true) : extL ms os (n + 1) b = extK ms os n b os.length := by
 rw [extL, if_pos h]; rfl
theorem extL_end {ms : List Mo} {os : List I3} {b : List Int} (h : fitB ms os b = true) : extL ms os 0 b = [b] := by
 rw [extL, if_pos h]
theorem extK_split (ms : List Mo) (os : List I3) (n : Nat) (b : List Int) (k : Nat) (h : k ≤ os.length) : ∃ post, extK ms os n b os.length = extK ms os n b k ++ post := by
 unfold extK
 generalize (fun (k : Nat) => if perB (os[k]?.getD (0, 0, 0)) (ms[b.length]?.getD noM) = true then extL ms os n (b ++ [(k : Int)]) else []) = g
 refine ⟨(List.range' k (os.length - k)).flatMap g, ?_⟩
 rw [← List.flatMap_append]
 congr 1
 rw [List.range_eq_range', List.range_eq_range']
 have := List.range'_append_1 (s := 0) (m := k) (n := os.length - k)
 rw [Nat.zero_add] at this
 rw [this]; congr 1; omega
theorem extL_mem {ms : List Mo} {os : List I3} : ∀ {n : Nat} {b x : List Int}, x ∈ extL ms os n b → fitB ms os x = true ∧ x.length = b.length + n ∧ ∃ t, x = b ++ t ∧ ∀ k ∈ t, 0 ≤ k ∧ k < os.length
 | 0, b, x, h => by
   rw [extL] at h
   split at h
   ·rw [List.mem_singleton] at h; subst h; exact ⟨by assumption, rfl, [], by simp, by simp⟩
   ·cases h
 | n + 1, b, x, h => by
   rw [extL] at h
   split at h
   ·obtain ⟨k, hk, hx⟩ := List.mem_flatMap.1 h
    split at hx
    ·obtain ⟨h1, h2, t, h3, h4⟩ := extL_mem hx
     rw [List.mem_range] at hk
     refine ⟨h1, by rw [h2]; simp; omega, (k : Int) :: t, by rw [h3]; simp, fun j hj => ?_⟩
     rcases List.mem_cons.1 hj with e | e
     ·subst e; omega
     ·exact h4 j e
    ·cases hx
   ·cases h
/-- all plans. -/
def plansL (ms : List Mo) (os : List I3) : List (List Int) := extL ms os ms.length []
theorem plansL_mem {ms : List Mo} {os : List I3} {x : List Int} (h : x ∈ plansL ms os) : fitB ms os x = true ∧ x.length = ms.length ∧ ∀ k ∈ x, 0 ≤ k ∧ k < os.length := by
 obtain ⟨h1, h2, t, h3, h4⟩ := extL_mem h
 rw [List.nil_append] at h3
 subst h3
 exact ⟨h1, by simpa using h2, h4⟩
/-- the better one. -/
def betS (os : List I3) : Option (List Int) → List Int → Option (List Int)
 | none, x => some x
 | some y, x => if costL os x < costL os y then some x else some y
def betO (os : List I3) (l : List (List Int)) : Option (List Int) := l.foldl (betS os) none
theorem betO_snoc (os : List I3) (l : List (List Int)) (x : List Int) : betO os (l ++ [x]) = betS os (betO os l) x := by simp [betO]
theorem betO_mem {os : List I3} {l : List (List Int)} : ∀ {y : List Int}, betO os l = some y → y ∈ l := by
 refine snoc_ind (p := fun l => ∀ {y : List Int}, betO os l = some y → y ∈ l) (fun h => by cases h) (fun l x ih y h => ?_) l
 rw [betO_snoc] at h
 cases hq : betO os l with
 | none => rw [hq] at h; simp only [betS, Option.some.injEq] at h; simp [h]
 | some z =>
   rw [hq] at h
   simp only [betS] at h
   split at h
   ·simp only [Option.some.injEq] at h; simp [h]
   ·simp only [Option.some.injEq] at h; subst h; simp [ih hq]
/-- nothing is better than a plan without cost. -/
theorem betO_zero {os : List I3} {pre : List (List Int)} {y : List Int} (h : betO os pre = some y) (h0 : costL os y = 0) : ∀ (post : List (List Int)), (∀ x ∈ post, 0 ≤ costL os x) → betO os (pre ++ post) = some y := by
 intro post
 refine snoc_ind (p := fun post => (∀ x ∈ post, 0 ≤ costL os x) → betO os (pre ++ post) = some y) (fun _ => by simpa using h) (fun l x ih hp => ?_) post
 rw [← List.append_assoc, betO_snoc, ih (fun z hz => hp z (by simp [hz]))]
 simp only [betS]
 rw [if_neg (by have := hp x (by simp); omega)]
def planO (ms : List Mo) (os : List I3) : Option (List Int) := betO os (plansL ms os)
def planE (ms : List Mo) (os : List I3) : Int := if bothE ms os = 0 then (if (planO ms os).isSome = true then 0 else 18) else bothE ms os
def planR (ms : List Mo) (os : List I3) : List Int := if bothE ms os = 0 then (planO ms os).getD [] else []
def cosO (os : List I3) : Option (List Int) → Int
 | none => 0
 | some x => costL os x
def planC (ms : List Mo) (os : List I3) : Int := if bothE ms os = 0 then cosO os (planO ms os) else 0
/-- a tick among rising ones. -/
def insT (t : Int) : List Int → List Int
 | [] => [t]
 | x :: l => if t < x then t :: x :: l else if t = x then x :: l else x :: insT t l
theorem mem_insT (t x : Int) (l : List Int) : x ∈ insT t l ↔ x = t ∨ x ∈ l := by
 induction l with
 | nil => simp [insT]
 | cons y l ih =>
   unfold insT
   split
   ·simp
   ·split
    ·rename_i h; subst h; simp
    ·rw [List.mem_cons, ih, List.mem_cons]
     constructor
     ·rintro (h | h | h)
      ·exact .inr (.inl h)
      ·exact .inl h
      ·exact .inr (.inr h)
     ·rintro (h | h | h)
      ·exact .inr (.inl h)
      ·exact .inl h
      ·exact .inr (.inr h)
theorem insT_sorted (t : Int) (l : List Int) (h : l.Pairwise (· < ·)) : (insT t l).Pairwise (· < ·) := by
 induction l with
 | nil => simp [insT]
 | cons y l ih =>
   rw [List.pairwise_cons] at h
   unfold insT
   split
   ·rw [List.pairwise_cons, List.pairwise_cons]
    refine ⟨fun z hz => ?_, h.1, h.2⟩
    rcases List.mem_cons.1 hz with e | e
    ·subst e; assumption
    ·have := h.1 z e; omega
   ·split
    ·rw [List.pairwise_cons]; exact h
    ·rw [List.pairwise_cons]
     refine ⟨fun z hz => ?_, ih h.2⟩
     rw [mem_insT] at hz
     rcases hz with e | e
     ·subst e; omega
     ·exact h.1 z e
/-- the ticks of pulses, rising. -/
def ticksL (l : List P2) : List Int := l.foldr (fun p t => insT p.1 t) []
theorem mem_ticksL (l : List P2) (x : Int) : x ∈ ticksL l ↔ ∃ p ∈ l, p.1 = x := by
 induction l with
 | nil => simp [ticksL]
 | cons p l ih =>
   show x ∈ insT p.1 (ticksL l) ↔ _
   rw [mem_insT, ih]
   constructor
   ·rintro (h | ⟨q, hq, h⟩)
    ·exact ⟨p, by simp, h.symm⟩
    ·exact ⟨q, by simp [hq], h⟩
   ·rintro ⟨q, hq, h⟩
    rcases List.mem_cons.1 hq with e | e
    ·subst e; exact .inl h.symm
    ·exact .inr ⟨q, e, h⟩
theorem ticksL_sorted (l : List P2) : (ticksL l).Pairwise (· < ·) := by
 induction l with
 | nil => simp [ticksL]
 | cons p l ih => exact insT_sorted _ _ ih
/-- the votes for a tick. -/
def votL (t : Int) (l : List P2) : List Int := (l.filter fun p => p.1 == t).map (·.2)
theorem votL_append (t : Int) (l m : List P2) : votL t (l ++ m) = votL t l ++ votL t m := by simp [votL]
theorem votL_ne {t : Int} {l : List P2} : votL t l ≠ [] ↔ t ∈ ticksL l := by
 rw [mem_ticksL]
 unfold votL
 constructor
 ·intro h
  rw [ne_eq, List.map_eq_nil_iff] at h
  obtain ⟨p, hp⟩ := List.exists_mem_of_ne_nil _ h
  rw [List.mem_filter] at hp
  exact ⟨p, hp.1, by simpa using hp.2⟩
 ·rintro ⟨p, hp, h⟩ e
  rw [List.map_eq_nil_iff, List.filter_eq_nil_iff] at e
  exact e p hp (by simpa using h)
/-- how many have valve v. -/
def yesC (v : Nat) (l : List Int) : Int := (l.map fun x => bitV x v).foldl (· + ·) 0
theorem yesC_snoc (v : Nat) (l : List Int) (x : Int) : yesC v (l ++ [x]) = yesC v l + bitV x v := by simp [yesC]
theorem yesC_rng (v : Nat) (l : List Int) : 0 ≤ yesC v l ∧ yesC v l ≤ l.length := by
 refine snoc_ind (p := fun l => 0 ≤ yesC v l ∧ yesC v l ≤ l.length) (by simp [yesC]) (fun l x ih => ?_) l
 have := bitV_rng x v
 rw [yesC_snoc, List.length_append, List.length_singleton]
 omega
/-- the valves below n that more than half have. -/
def majK (l : List Int) : Nat → Int
 | 0 => 0
 | n + 1 => majK l n + (if (l.length : Int) < 2 * yesC n l then 2 ^ n else 0)
theorem majK_rng (l : List Int) (n : Nat) : 0 ≤ majK l n ∧ majK l n < 2 ^ n := by
 induction n with
 | zero => simp [majK]
 | succ n ih =>
   have hp : (0 : Int) < 2 ^ n := pow_pos2 n
   have : (2 : Int) ^ (n + 1) = 2 ^ n * 2 := Int.pow_succ 2 n
   unfold majK
   split <;> omega
def voteL (n : Nat) (l : List P2) : List P2 := ((ticksL l).filter fun t => decide (n < 2 * (votL t l).length)).map fun t => (t, majK (votL t l) 12)
theorem mem_voteL (n : Nat) (l : List P2) (x : P2) : x ∈ voteL n l ↔ x.1 ∈ ticksL l ∧ n < 2 * (votL x.1 l).length ∧ x.2 = majK (votL x.1 l) 12 := by
 unfold voteL
 rw [List.mem_map]
 constructor
 ·rintro ⟨t, ht, rfl⟩
  rw [List.mem_filter, decide_eq_true_eq] at ht
  exact ⟨ht.1, ht.2, rfl⟩
 ·rintro ⟨h1, h2, h3⟩
  exact ⟨x.1, by rw [List.mem_filter, decide_eq_true_eq]; exact ⟨h1, h2⟩, by rw [← h3]⟩
theorem voteL_sorted (n : Nat) (l : List P2) : (voteL n l).Pairwise (fun x y => x.1 < y.1) := by
 unfold voteL
 rw [List.pairwise_map]
 exact ((ticksL_sorted l).filter _).imp fun h => h
/-- rising lists with the same members are one. -/
theorem rise_eq {l m : List P2} (hl : l.Pairwise (fun x y => x.1 < y.1)) (hm : m.Pairwise (fun x y => x.1 < y.1)) (h : ∀ x, x ∈ l ↔ x ∈ m) : l = m := by
 induction l generalizing m with
 | nil =>
   cases m with
   | nil => rfl
   | cons y m => exact absurd ((h y).2 (by simp)) (by simp)
 | cons x l ih =>
   cases m with
   | nil => exact absurd ((h x).1 (by simp)) (by simp)
   | cons y m =>
     rw [List.pairwise_cons] at hl hm
     have hxy : x = y := by
      rcases List.mem_cons.1 ((h x).1 (by simp)) with e | e
      ·exact e
      ·rcases List.mem_cons.1 ((h y).2 (by simp)) with e2 | e2
       ·exact e2.symm
       ·have := hm.1 x e
        have := hl.1 y e2
        omega
     subst hxy
     congr 1
     refine ih hl.2 hm.2 fun z => ?_
     constructor
     ·intro hz
      rcases List.mem_cons.1 ((h z).1 (by simp [hz])) with e | e
      ·subst e; have := hl.1 z hz; omega
      ·exact e
     ·intro hz
      rcases List.mem_cons.1 ((h z).2 (by simp [hz])) with e | e
      ·subst e; have := hm.1 z hz; omega
      ·exact e
end Go.Proofs.YtpmngcffkhbofaaGreatDoor

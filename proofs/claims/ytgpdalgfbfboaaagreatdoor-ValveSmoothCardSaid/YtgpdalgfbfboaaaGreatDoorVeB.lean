/- Changing over: the plain facts. -/
import Derived.Test.YtgpdalgfbfboaaaGreatDoorVdB
namespace Go.Proofs.YtgpdalgfbfboaaaGreatDoor
section
set_option linter.unusedSimpArgs false
set_option linter.unusedVariables false
open Go.RowKit
theorem TrOk.lt {l : List P2} (h : TrOk l) : ∀ (d i : Nat) (x y : P2), l[i]? = some x → l[i + d + 1]? = some y → x.1 < y.1 := by
 intro d
 induction d with
 | zero => intro i x y hx hy; exact h.asc i x y hx hy
 | succ d ih =>
   intro i x y hx hy
   have hl := (List.getElem?_eq_some_iff.1 hy).1
   obtain ⟨z, hz⟩ : ∃ z, l[i + d + 1]? = some z := ⟨_, List.getElem?_eq_getElem (by omega)⟩
   exact Int.lt_trans (ih i x z hx hz) (h.asc (i + d + 1) z y hz (by rw [← hy]; congr 1))
theorem TrOk.sorted {l : List P2} (h : TrOk l) : l.Pairwise (fun x y => x.1 < y.1) := by
 rw [List.pairwise_iff_getElem]
 intro i j hi hj hij
 refine h.lt (j - i - 1) i _ _ (List.getElem?_eq_getElem hi) ?_
 rw [show i + (j - i - 1) + 1 = j by omega]
 exact List.getElem?_eq_getElem hj
/-- the pulses at a tick, as the reference looks. -/
def atR (l : List P2) (t : Int) : Option Int := (l.find? fun x => x.1 == t).map (·.2)
theorem atR_cons (x : P2) (l : List P2) (t : Int) : atR (x :: l) t = if x.1 = t then some x.2 else atR l t := by
 unfold atR
 rw [List.find?_cons]
 by_cases h : x.1 = t
 ·simp [h]
 ·have : (x.1 == t) = false := by simpa using h
  rw [this, if_neg h]
theorem atR_some {l : List P2} {t v : Int} (h : atR l t = some v) : (t, v) ∈ l := by
 induction l with
 | nil => cases h
 | cons x l ih =>
   rw [atR_cons] at h
   split at h
   ·rename_i e
    cases h
    rw [← e]; exact List.mem_cons_self
   ·exact List.mem_cons_of_mem _ (ih h)
theorem atR_mem {l : List P2} (hs : l.Pairwise (fun x y => x.1 < y.1)) {t v : Int} (h : (t, v) ∈ l) : atR l t = some v := by
 induction l with
 | nil => cases h
 | cons x l ih =>
   rw [List.pairwise_cons] at hs
   rw [atR_cons]
   rcases List.mem_cons.1 h with rfl | h
   ·simp
   ·have := hs.1 _ h
    simp only at this
    rw [if_neg (by omega)]
    exact ih hs.2 h
theorem lkp_fold (l : List P2) (t : Int) (o : Option Int) (hs : l.Pairwise (fun x y => x.1 < y.1)) : l.foldl (fun o x => if x.1 = t then some x.2 else o) o = (atR l t).or o := by
 induction l generalizing o with
 | nil => rfl
 | cons x l ih =>
   rw [List.pairwise_cons] at hs
   rw [List.foldl_cons, ih _ hs.2, atR_cons]
   by_cases h : x.1 = t
   ·rw [if_pos h, if_pos h]
    have : atR l t = none := by
     cases hq : atR l t with
     | none => rfl
     | some v => have := hs.1 _ (atR_some hq); simp only at this; omega
    rw [this]; rfl
   ·rw [if_neg h, if_neg h]
theorem lkp_eq {l : List P2} (hs : l.Pairwise (fun x y => x.1 < y.1)) (t : Int) : lkp l t = atR l t := by
 unfold lkp
 rw [lkp_fold l t none hs]
 cases atR l t <;> rfl
/-- the first tick at which they differ, as the reference looks. -/
def difR (la lb : List P2) : Option P2 := la.find? fun x => match atR lb x.1 with | some v => v != x.2 | none => false
theorem difF_eq (la lb : List P2) (hs : lb.Pairwise (fun x y => x.1 < y.1)) : (difF (bothL la lb)).map (·.1) = difR la lb := by
 induction la with
 | nil => rfl
 | cons x la ih =>
   unfold bothL bothF difR difF at *
   rw [List.filterMap_cons, List.find?_cons, lkp_eq hs]
   cases hq : atR lb x.1 with
   | none => simpa using ih
   | some v =>
     simp only [Option.map_some]
     rw [List.find?_cons]
     by_cases h : v = x.2
     ·subst h
      have h1 : (x != (x.1, x.2)) = false := by simp
      simp only [h1, bne_self_eq_false]
      exact ih
     ·have h1 : (x != (x.1, v)) = true := by
       rw [bne_iff_ne]; intro e; exact h (congrArg Prod.snd e).symm
      have h2 : (v != x.2) = true := by rw [bne_iff_ne]; exact h
      simp only [h1, h2, Option.map_some]
/-- a tick at which both agree. -/
def Good (la lb : List P2) (t : Int) : Prop := ∃ v, atR la t = some v ∧ atR lb t = some v
theorem both_mem {la lb : List P2} (ha : la.Pairwise (fun x y => x.1 < y.1)) (hb : lb.Pairwise (fun x y => x.1 < y.1)) {x : P2 × P2} (h : x ∈ bothL la lb) : x.1 ∈ la ∧ x.2.1 = x.1.1 ∧ atR la x.1.1 = some x.1.2 ∧ atR lb x.1.1 = some x.2.2 := by
 unfold bothL at h
 rw [List.mem_filterMap] at h
 obtain ⟨p, hp, h⟩ := h
 unfold bothF at h
 rw [lkp_eq hb] at h
 cases hq : atR lb p.1 with
 | none => rw [hq] at h; cases h
 | some v =>
   rw [hq] at h
   cases h
   exact ⟨hp, rfl, atR_mem ha hp, hq⟩
theorem both_sorted {la lb : List P2} (ha : la.Pairwise (fun x y => x.1 < y.1)) : (bothL la lb).Pairwise (fun x y => x.1.1 < y.1.1) := by
 induction la with
 | nil => exact List.Pairwise.nil
 | cons p la ih =>
   rw [List.pairwise_cons] at ha
   have hm : ∀ z ∈ bothL la lb, z.1 ∈ la := by
    intro z hz
    unfold bothL at hz
    rw [List.mem_filterMap] at hz
    obtain ⟨q, hq, h⟩ := hz
    unfold bothF at h
    cases hk : lkp lb q.1 with
    | none => rw [hk] at h; cases h
    | some v => rw [hk] at h; cases h; exact hq
   have he : bothL (p :: la) lb = (match lkp lb p.1 with | some v => [(p, (p.1, v))] | none => []) ++ bothL la lb := by
    unfold bothL bothF
    rw [List.filterMap_cons]
    cases lkp lb p.1 <;> rfl
   rw [he]
   cases hk : lkp lb p.1 with
   | none => exact ih ha.2
   | some v =>
     rw [List.singleton_append, List.pairwise_cons]
     exact ⟨fun z hz => ha.1 _ (hm z hz), ih ha.2⟩
theorem good_both {la lb : List P2} (hb : lb.Pairwise (fun x y => x.1 < y.1)) {t : Int} (h : Good la lb t) : ∃ v, ((t, v), (t, v)) ∈ bothL la lb := by
 obtain ⟨v, h1, h2⟩ := h
 refine ⟨v, ?_⟩
 unfold bothL
 rw [List.mem_filterMap]
 refine ⟨(t, v), atR_some h1, ?_⟩
 unfold bothF
 rw [lkp_eq hb, h2]; rfl
/-- what the run means when ticks below n have been seen. -/
structure CoR (G : Int → Prop) (fr : Int) (hd : Int) (s : Int × Int) : Prop where
 rng : 0 ≤ s.1 ∧ s.1 < hd
 run : ∀ t, s.2 - s.1 ≤ t → t < s.2 → G t ∧ fr ≤ t
 bad : ¬ (G (s.2 - s.1 - 1) ∧ fr ≤ s.2 - s.1 - 1)
/-- the change-over's loop says the first tick from which a hold fits. -/
theorem coG_spec (G : Int → Prop) (fr hd : Int) (hd0 : 1 ≤ hd) : ∀ (l : List (P2 × P2)) (s : Int × Int), CoR G fr hd s → l.Pairwise (fun x y => x.1.1 < y.1.1) → (∀ x ∈ l, s.2 ≤ x.1.1) → (∀ x ∈ l, G x.1.1 ↔ x.1 = x.2) → (∀ t, s.2 ≤ t → G t → ∃ x ∈ l, x.1.1 = t) →
 (∀ r, coG fr hd s l = some r → (∀ t, r ≤ t → t < r + hd → G t ∧ fr ≤ t) ∧ s.2 - s.1 ≤ r ∧ ∀ r', s.2 - s.1 ≤ r' → r' < r → ¬ ∀ t, r' ≤ t → t < r' + hd → G t ∧ fr ≤ t)
 ∧ (coG fr hd s l = none → ∀ r', s.2 - s.1 ≤ r' → ¬ ∀ t, r' ≤ t → t < r' + hd → G t ∧ fr ≤ t) := by
 intro l
 induction l with
 | nil =>
   intro s hc _ _ _ hall
   refine ⟨fun r h => (by cases h), fun _ r' hr' hw => ?_⟩
   have := hc.rng
   obtain ⟨x, hx, _⟩ := hall (r' + hd - 1) (by omega) (hw (r' + hd - 1) (by omega) (by omega)).1
   cases hx
 | cons x l ih =>
   intro s hc hs hge hG hall
   rw [List.pairwise_cons] at hs
   have hx0 := hge x List.mem_cons_self
   have hgx := hG x List.mem_cons_self
   have hrng := hc.rng
   -- no tick between the next one and this one is seen
   have hgap : ∀ t, s.2 ≤ t → t < x.1.1 → ¬ G t := by
    intro t h1 h2 hg
    obtain ⟨y, hy, he⟩ := hall t h1 hg
    rcases List.mem_cons.1 hy with rfl | hy
    ·omega
    ·have := hs.1 y hy; omega
   have hS2 : (coS fr s x).2 = x.1.1 + 1 := rfl
   have hS1 : (coS fr s x).1 = if (x.1 != x.2 || decide (x.1.1 < fr)) = true then 0 else (if x.1.1 = s.2 then s.1 else 0) + 1 := rfl
   -- a hold that begins before the run's begin does not fit
   have hold : ∀ r', s.2 - s.1 ≤ r' → r' < (coS fr s x).2 - (coS fr s x).1 → r' + hd ≤ x.1.1 + 1 ∨ True → ¬ ∀ t, r' ≤ t → t < r' + hd → G t ∧ fr ≤ t := by
    intro r' h1 h2 _ hw
    rw [hS1, hS2] at h2
    have hx1 : ¬ ((x.1 != x.2 || decide (x.1.1 < fr)) = true) → (G x.1.1 ∧ fr ≤ x.1.1) := by
     intro hn
     simp only [Bool.or_eq_true, bne_iff_ne, decide_eq_true_eq, not_or, Classical.not_not] at hn
     exact ⟨hgx.2 hn.1, by omega⟩
    by_cases hb : (x.1 != x.2 || decide (x.1.1 < fr)) = true
    ·rw [if_pos hb] at h2
     have hbad : ¬ (G x.1.1 ∧ fr ≤ x.1.1) := by
      rintro ⟨hg, hf⟩
      simp only [Bool.or_eq_true, bne_iff_ne, decide_eq_true_eq] at hb
      rcases hb with hb | hb
      ·exact hb (hgx.1 hg)
      ·omega
     -- the window would have to end before x
     by_cases he : r' + hd ≤ x.1.1
     ·by_cases hr : r' + hd ≤ s.2
      ·omega
      ·exact hgap (r' + hd - 1) (by omega) (by omega) (hw (r' + hd - 1) (by omega) (by omega)).1
     ·exact hbad (hw x.1.1 (by omega) (by omega))
    ·rw [if_neg hb] at h2
     by_cases hn : x.1.1 = s.2
     ·rw [if_pos hn] at h2; omega
     ·rw [if_neg hn] at h2
      -- a gap before x
      by_cases hr : r' + hd ≤ s.2
      ·omega
      ·by_cases h9 : r' ≤ s.2
       ·exact hgap s.2 (by omega) (by omega) (hw s.2 (by omega) (by omega)).1
       ·exact hgap r' (by omega) (by omega) (hw r' (by omega) (by omega)).1
   have hrun : ∀ t, (coS fr s x).2 - (coS fr s x).1 ≤ t → t < (coS fr s x).2 → G t ∧ fr ≤ t := by
    intro t h1 h2
    rw [hS1, hS2] at h1
    rw [hS2] at h2
    by_cases hb : (x.1 != x.2 || decide (x.1.1 < fr)) = true
    ·rw [if_pos hb] at h1; omega
    ·rw [if_neg hb] at h1
     simp only [Bool.or_eq_true, bne_iff_ne, decide_eq_true_eq, not_or, Classical.not_not] at hb
     by_cases ht : t = x.1.1
     ·subst ht; exact ⟨hgx.2 hb.1, by omega⟩
     ·by_cases hn : x.1.1 = s.2
      ·rw [if_pos hn] at h1
       exact hc.run t (by omega) (by omega)
      ·rw [if_neg hn] at h1; omega
   have hS0 : 0 ≤ (coS fr s x).1 ∧ (coS fr s x).1 ≤ hd := by
    rw [hS1]
    split
    ·omega
    ·split <;> omega
   have hmono : s.2 - s.1 ≤ (coS fr s x).2 - (coS fr s x).1 := by
    rw [hS1, hS2]
    split
    ·omega
    ·split <;> omega
   by_cases hstop : (coS fr s x).1 = hd
   ·refine ⟨fun r h => ?_, fun h => ?_⟩
    ·rw [coG, if_pos hstop] at h
     cases h
     refine ⟨fun t h1 h2 => hrun t (by omega) (by omega), by omega, fun r' h1 h2 => hold r' h1 (by omega) (.inr trivial)⟩
    ·rw [coG, if_pos hstop] at h; cases h
   ·have hc' : CoR G fr hd (coS fr s x) := by
     refine ⟨by omega, hrun, ?_⟩
     rintro ⟨hg, hf⟩
     rw [hS1, hS2] at hg hf
     by_cases hb : (x.1 != x.2 || decide (x.1.1 < fr)) = true
     ·rw [if_pos hb] at hg hf
      rw [show x.1.1 + 1 - 0 - 1 = x.1.1 by omega] at hg hf
      simp only [Bool.or_eq_true, bne_iff_ne, decide_eq_true_eq] at hb
      rcases hb with hb | hb
      ·exact hb (hgx.1 hg)
      ·omega
     ·rw [if_neg hb] at hg hf
      by_cases hn : x.1.1 = s.2
      ·rw [if_pos hn, hn] at hg hf
       rw [show s.2 + 1 - (s.1 + 1) - 1 = s.2 - s.1 - 1 by omega] at hg hf
       exact hc.bad ⟨hg, hf⟩
      ·rw [if_neg hn] at hg
       rw [show x.1.1 + 1 - (0 + 1) - 1 = x.1.1 - 1 by omega] at hg
       exact hgap _ (by omega) (by omega) hg
    have key := ih (coS fr s x) hc' hs.2 (fun y hy => by rw [hS2]; have := hs.1 y hy; omega) (fun y hy => hG y (List.mem_cons_of_mem _ hy)) (fun t ht hg => by
     rw [hS2] at ht
     obtain ⟨y, hy, he⟩ := hall t (by omega) hg
     rcases List.mem_cons.1 hy with rfl | hy
     ·omega
     ·exact ⟨y, hy, he⟩)
    have e : coG fr hd s (x :: l) = coG fr hd (coS fr s x) l := by rw [coG, if_neg hstop]
    rw [e]
    refine ⟨fun r h => ?_, fun h r' h1 => ?_⟩
    ·obtain ⟨k1, k2, k3⟩ := key.1 r h
     refine ⟨k1, by omega, fun r' h1 h2 => ?_⟩
     by_cases h9 : r' < (coS fr s x).2 - (coS fr s x).1
     ·exact hold r' h1 h9 (.inr trivial)
     ·exact k3 r' (by omega) h2
    ·by_cases h9 : r' < (coS fr s x).2 - (coS fr s x).1
     ·exact hold r' h1 h9 (.inr trivial)
     ·exact key.2 h r' (by omega)
end
section
set_option linter.unusedSimpArgs false
set_option linter.unusedVariables false
open Go.RowKit
def goodB (la lb : List P2) (t : Int) : Bool := match atR la t, atR lb t with | some x, some y => x == y | _, _ => false
theorem goodB_iff (la lb : List P2) (t : Int) : goodB la lb t = true ↔ Good la lb t := by
 unfold goodB Good
 cases h1 : atR la t with
 | none => simp
 | some x =>
   cases h2 : atR lb t with
   | none => simp
   | some y =>
     simp only [beq_iff_eq, Option.some.injEq]
     constructor
     ·intro h; exact ⟨x, rfl, h.symm⟩
     ·rintro ⟨v, h3, h4⟩; exact h3.trans h4.symm
/-- a change-over is possible at a tick, n ticks long. -/
def possB (la lb : List P2) (t : Int) (n : Nat) : Bool := (List.range n).all fun k => goodB la lb (t + k)
theorem possB_succ (la lb : List P2) (t : Int) (n : Nat) : possB la lb t (n + 1) = (possB la lb t n && goodB la lb (t + n)) := by
 unfold possB
 rw [List.range_succ, List.all_append]; simp
theorem possB_iff (la lb : List P2) (t : Int) (n : Nat) : possB la lb t n = true ↔ ∀ k : Nat, k < n → Good la lb (t + k) := by
 unfold possB
 rw [List.all_eq_true]
 constructor
 ·intro h k hk
  exact (goodB_iff _ _ _).1 (h k (List.mem_range.2 hk))
 ·intro h k hk
  exact (goodB_iff _ _ _).2 (h k (List.mem_range.1 hk))
def overP (la lb : List P2) (fr : Int) (n : Nat) (x : P2) : Bool := decide (fr ≤ x.1) && possB la lb x.1 n
def overR (la lb : List P2) (fr : Int) (n : Nat) : Option P2 := la.find? (overP la lb fr n)
theorem find_first {p : P2 → Bool} {l : List P2} (hs : l.Pairwise (fun x y => x.1 < y.1)) {y : P2} (h : l.find? p = some y) : y ∈ l ∧ p y = true ∧ ∀ z ∈ l, p z = true → y.1 ≤ z.1 := by
 induction l with
 | nil => cases h
 | cons x l ih =>
   rw [List.pairwise_cons] at hs
   rw [List.find?_cons] at h
   cases hp : p x with
   | true =>
     rw [hp] at h
     cases h
     refine ⟨List.mem_cons_self, hp, fun z hz _ => ?_⟩
     rcases List.mem_cons.1 hz with rfl | hz
     ·exact Int.le_refl _
     ·exact Int.le_of_lt (hs.1 z hz)
   | false =>
     rw [hp] at h
     obtain ⟨h1, h2, h3⟩ := ih hs.2 h
     refine ⟨List.mem_cons_of_mem _ h1, h2, fun z hz hpz => ?_⟩
     rcases List.mem_cons.1 hz with rfl | hz
     ·rw [hp] at hpz; cases hpz
     ·exact h3 z hz hpz
theorem chO_eq {la lb : List P2} (ha : TrOk la) (hb : TrOk lb) (fr hd : Int) (h1 : 1 ≤ hd) : chO la lb fr hd = (overR la lb fr hd.toNat).map (·.1) := by
 have sa := ha.sorted
 have sb := hb.sorted
 have hge : ∀ x ∈ bothL la lb, 0 ≤ x.1.1 := fun x hx => (ha.mem (both_mem sa sb hx).1).1.1
 have hgood : ∀ t, Good la lb t → 0 ≤ t := by
  rintro t ⟨v, hv, _⟩
  exact (ha.mem (atR_some hv)).1.1
 have key := coG_spec (Good la lb) fr hd h1 (bothL la lb) (0, -1)
  ⟨⟨by simp, by simp; omega⟩, fun t h2 h3 => by simp at h2 h3; omega, fun h => by have := hgood _ h.1; simp at this⟩ (both_sorted sa)
  (fun x hx => by have := hge x hx; simp; omega)
  (fun x hx => by
    obtain ⟨-, e1, e2, e3⟩ := both_mem sa sb hx
    unfold Good
    rw [e2, e3]
    obtain ⟨⟨a, b⟩, ⟨c, d⟩⟩ := x
    simp only at e1
    simp only [Option.some.injEq, Prod.mk.injEq]
    constructor
    ·rintro ⟨v, h3, h4⟩; exact ⟨e1.symm, h3.trans h4.symm⟩
    ·rintro ⟨-, h3⟩; exact ⟨b, rfl, h3.symm⟩)
  (fun t h2 hg => by
    obtain ⟨v, hm⟩ := good_both sb hg
    exact ⟨_, hm, rfl⟩)
 have hW : ∀ x ∈ la, overP la lb fr hd.toNat x = true ↔ ∀ t, x.1 ≤ t → t < x.1 + hd → Good la lb t ∧ fr ≤ t := by
  intro x hx
  unfold overP
  rw [Bool.and_eq_true, decide_eq_true_eq, possB_iff]
  constructor
  ·rintro ⟨h2, h3⟩ t h4 h5
   have := h3 (t - x.1).toNat (by omega)
   rw [show x.1 + ((t - x.1).toNat : Int) = t by omega] at this
   exact ⟨this, by omega⟩
  ·intro h
   refine ⟨(h x.1 (Int.le_refl _) (by omega)).2, fun k hk => (h (x.1 + k) (by omega) (by omega)).1⟩
 unfold chO overR
 cases hq : coG fr hd (0, -1) (bothL la lb) with
 | none =>
   have h2 := key.2 hq
   have : la.find? (overP la lb fr hd.toNat) = none := by
    rw [List.find?_eq_none]
    intro x hx hp
    have h3 := (ha.mem hx).1.1
    exact h2 x.1 (by simp; omega) ((hW x hx).1 hp)
   rw [this]; rfl
 | some r =>
   obtain ⟨k1, k2, k3⟩ := key.1 r hq
   obtain ⟨v, hv, hv2⟩ := (k1 r (Int.le_refl _) (by omega)).1
   have hm := atR_some hv
   have hp : overP la lb fr hd.toNat (r, v) = true := (hW _ hm).2 k1
   cases hf : la.find? (overP la lb fr hd.toNat) with
   | none =>
     rw [List.find?_eq_none] at hf
     exact absurd hp (hf _ hm)
   | some y =>
     obtain ⟨y1, y2, y3⟩ := find_first sa hf
     have h4 := y3 _ hm hp
     have h5 := (ha.mem y1).1.1
     simp only at h4
     by_cases h6 : y.1 = r
     ·rw [← h6]; rfl
     ·exact absurd ((hW _ y1).1 y2) (k3 y.1 (by simp; omega) (by omega))
/-- the switched train, as the reference says it. -/
def swtF (la lb : List P2) (t : Int) : List P2 := (la.filter fun x => decide (x.1 < t)) ++ (lb.filter fun x => decide (t ≤ x.1))
theorem take_lt {l : List P2} (hs : l.Pairwise (fun x y => x.1 < y.1)) (t : Int) : l.take (bfK l t) = (l.filter fun x => decide (x.1 < t)) ∧ l.drop (bfK l t) = (l.filter fun x => decide (t ≤ x.1)) := by
 induction l with
 | nil => exact ⟨rfl, rfl⟩
 | cons x l ih =>
   rw [List.pairwise_cons] at hs
   obtain ⟨h1, h2⟩ := ih hs.2
   unfold bfK at h1 h2 ⊢
   rw [List.findIdx_cons]
   by_cases h : t ≤ x.1
   ·have d1 : decide (t ≤ x.1) = true := decide_eq_true h
    have d2 : decide (x.1 < t) = false := decide_eq_false (by omega)
    have e1 : ∀ y ∈ l, ¬ decide (y.1 < t) = true := fun y hy => by have := hs.1 y hy; simp; omega
    have e2 : ∀ y ∈ l, decide (t ≤ y.1) = true := fun y hy => by have := hs.1 y hy; simp; omega
    simp only [List.filter_cons, d1, d2, if_true, Bool.false_eq_true, if_false, cond_true, List.take_zero, List.drop_zero]
    rw [List.filter_eq_nil_iff.2 e1, List.filter_eq_self.2 e2]
    exact ⟨rfl, rfl⟩
   ·have d1 : decide (t ≤ x.1) = false := decide_eq_false h
    have d2 : decide (x.1 < t) = true := decide_eq_true (by omega)
    simp only [List.filter_cons, d1, d2, if_true, Bool.false_eq_true, if_false, cond_false, List.take_succ_cons, List.drop_succ_cons, h1, h2, and_self]
theorem swtL_eq {la lb : List P2} (ha : TrOk la) (hb : TrOk lb) (t : Int) : swtL la lb t = swtF la lb t := by
 unfold swtL swtF
 rw [(take_lt ha.sorted t).1, (take_lt hb.sorted t).2]
end
end Go.Proofs.YtgpdalgfbfboaaaGreatDoor

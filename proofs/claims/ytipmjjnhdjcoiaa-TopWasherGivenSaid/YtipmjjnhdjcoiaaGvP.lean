/- The law TopWasherGiven: plain facts: orders, merged orders, ramps, losses. -/
import Derived.Test.YtipmjjnhdjcoiaaGvA
namespace Go.Proofs.Ytipmjjnhdjcoiaa
set_option linter.unusedSimpArgs false
set_option linter.unusedVariables false
open Go.RowKit Go.Maps

theorem withinG_zero {n lo hi : Int} : withinE n lo hi = 0 ↔ lo ≤ n ∧ n ≤ hi := by
  refine ⟨withinE_ok, fun h => ?_⟩
  unfold withinE; rw [if_neg (by omega)]
/-- orders as they are to be. -/
structure OdOk (l : List P2) : Prop where
  len : l.length ≤ 32
  rng : ∀ (k : Nat) (x : P2), l[k]? = some x → (0 ≤ x.1 ∧ x.1 ≤ 100000) ∧ (-1000 ≤ x.2 ∧ x.2 ≤ 1000)
  inc : ∀ (k : Nat) (x y : P2), l[k]? = some x → l[k + 1]? = some y → x.1 < y.1
/-- the first k of them are. -/
structure OdK (l : List P2) (k : Nat) : Prop where
  rng : ∀ (j : Nat) (x : P2), j < k → l[j]? = some x → (0 ≤ x.1 ∧ x.1 ≤ 100000) ∧ (-1000 ≤ x.2 ∧ x.2 ≤ 1000)
  inc : ∀ (j : Nat) (x y : P2), j + 1 < k → l[j]? = some x → l[j + 1]? = some y → x.1 < y.1
theorem OdK.zero (l : List P2) : OdK l 0 := ⟨fun _ _ h => by omega, fun _ _ _ h => by omega⟩
theorem OdK.succ {l : List P2} {k : Nat} {x : P2} (h : OdK l k) (hx : l[k]? = some x) (hr : (0 ≤ x.1 ∧ x.1 ≤ 100000) ∧ (-1000 ≤ x.2 ∧ x.2 ≤ 1000)) (hi : ∀ (j : Nat) (y : P2), k = j + 1 → l[j]? = some y → y.1 < x.1) : OdK l (k + 1) := by
  refine ⟨fun j y hj hy => ?_, fun j y z hj hy hz => ?_⟩
  · rcases Nat.lt_or_ge j k with h1 | h1
    · exact h.rng j y h1 hy
    · obtain rfl : j = k := by omega
      rw [hx] at hy; cases hy; exact hr
  · rcases Nat.lt_or_ge (j + 1) k with h1 | h1
    · exact h.inc j y z h1 hy hz
    · obtain rfl : k = j + 1 := by omega
      rw [hx] at hz; cases hz; exact hi j y rfl hy
theorem OdK.full {l : List P2} (h : OdK l l.length) (hl : l.length ≤ 32) : OdOk l :=
  ⟨hl, fun k x hx => h.rng k x (List.getElem?_eq_some_iff.1 hx).1 hx, fun k x y hx hy => h.inc k x y (List.getElem?_eq_some_iff.1 hy).1 hx hy⟩
theorem OdOk.mem {l : List P2} (h : OdOk l) {x : P2} (hx : x ∈ l) : (0 ≤ x.1 ∧ x.1 ≤ 100000) ∧ (-1000 ≤ x.2 ∧ x.2 ≤ 1000) := by
  obtain ⟨k, hk, rfl⟩ := List.mem_iff_getElem.1 hx
  exact h.rng k _ (List.getElem?_eq_getElem hk)
/-- the tick before. -/
def prvT (l : List P2) (k : Nat) : Int := if k = 0 then -1 else (l[k - 1]?.getD (0, 0)).1
theorem prvT_succ {l : List P2} {k : Nat} {x : P2} (h : l[k]? = some x) : prvT l (k + 1) = x.1 := by
  simp [prvT, h]
theorem OdOk.prv {l : List P2} (h : OdOk l) {k : Nat} {x : P2} (hx : l[k]? = some x) : prvT l k < x.1 := by
  cases k with
  | zero => have := (h.rng 0 x hx).1; simp [prvT]; omega
  | succ k =>
    obtain ⟨y, hy⟩ : ∃ y, l[k]? = some y := ⟨_, List.getElem?_eq_getElem (by have := (List.getElem?_eq_some_iff.1 hx).1; omega)⟩
    rw [prvT_succ hy]
    exact h.inc k y x hy hx

/-- what orders ask for at a tick. -/
def askL (l : List P2) (t : Int) : Int := l.foldl (fun p x => if x.1 ≤ t then x.2 else p) 0
theorem askL_snoc (l : List P2) (x : P2) (t : Int) : askL (l ++ [x]) t = if x.1 ≤ t then x.2 else askL l t := by simp [askL]
theorem askL_take (l : List P2) (t : Int) {k : Nat} {x : P2} (hx : l[k]? = some x) : askL (l.take (k + 1)) t = if x.1 ≤ t then x.2 else askL (l.take k) t := by
  rw [List.take_add_one, hx]; exact askL_snoc _ _ _
theorem askL_rng {l : List P2} {a b : Int} (h0 : a ≤ 0 ∧ 0 ≤ b) (h : ∀ x ∈ l, a ≤ x.2 ∧ x.2 ≤ b) (t : Int) : a ≤ askL l t ∧ askL l t ≤ b := by
  revert h
  refine snoc_ind (p := fun l => (∀ x ∈ l, a ≤ x.2 ∧ x.2 ≤ b) → a ≤ askL l t ∧ askL l t ≤ b) (fun _ => h0) (fun l x ih h => ?_) l
  rw [askL_snoc]
  split
  · exact h x (by simp)
  · exact ih fun y hy => h y (by simp [hy])

/-- the merged orders. -/
def mrgL (a b : List P2) : List P2 := (ticksL (a ++ b)).map fun t => (t, askL a t + askL b t)
theorem mem_mrgL (a b : List P2) (x : P2) : x ∈ mrgL a b ↔ x.1 ∈ ticksL (a ++ b) ∧ x.2 = askL a x.1 + askL b x.1 := by
  unfold mrgL
  rw [List.mem_map]
  constructor
  · rintro ⟨t, ht, rfl⟩; exact ⟨ht, rfl⟩
  · rintro ⟨h1, h2⟩; exact ⟨x.1, h1, by rw [← h2]⟩
theorem mrgL_sorted (a b : List P2) : (mrgL a b).Pairwise (fun x y => x.1 < y.1) := by
  unfold mrgL
  rw [List.pairwise_map]
  exact (ticksL_sorted _).imp fun h => h
theorem insT_len (t : Int) (l : List Int) : (insT t l).length ≤ l.length + 1 := by
  induction l with
  | nil => simp [insT]
  | cons y l ih =>
    unfold insT
    split
    · simp
    · split
      · simp
      · simp; omega
theorem ticksL_len (l : List P2) : (ticksL l).length ≤ l.length := by
  induction l with
  | nil => simp [ticksL]
  | cons p l ih =>
    have := insT_len p.1 (ticksL l)
    show (insT p.1 (ticksL l)).length ≤ l.length + 1
    omega
theorem mrgL_len (a b : List P2) : (mrgL a b).length ≤ a.length + b.length := by
  have := ticksL_len (a ++ b)
  rw [List.length_append] at this
  unfold mrgL
  rw [List.length_map]; exact this
/-- one of them is too great. -/
def lrgB (a b : List P2) : Bool := (mrgL a b).any fun x => withinE x.2 (-1000) 1000 != 0

/-- the map of ticks. -/
def tkD (l : List P2) : DataW Unit := l.foldl (fun D x => D.put (.int .i64 x.1) (.lit (.bool true))) (.map [])
theorem tkD_snoc (l : List P2) (x : P2) : tkD (l ++ [x]) = (tkD l).put (.int .i64 x.1) (.lit (.bool true)) := by simp [tkD]
theorem tkD_isMap (l : List P2) : IsMap (tkD l) := by
  refine snoc_ind (p := fun l => IsMap (tkD l)) ⟨_, rfl⟩ (fun l x ⟨es, h⟩ => ?_) l
  rw [tkD_snoc, h]
  exact ⟨_, rfl⟩
theorem has_tkD (l : List P2) (k : Int) : has (tkD l) (.int .i64 k) = decide (k ∈ ticksL l) := by
  refine snoc_ind (p := fun l => has (tkD l) (.int .i64 k) = decide (k ∈ ticksL l)) rfl (fun l x ih => ?_) l
  have e : (k ∈ ticksL (l ++ [x])) ↔ k = x.1 ∨ k ∈ ticksL l := by
    rw [mem_ticksL, mem_ticksL]
    constructor
    · rintro ⟨p, hp, rfl⟩
      rcases List.mem_append.1 hp with h | h
      · exact .inr ⟨p, h, rfl⟩
      · rw [List.mem_singleton] at h; subst h; exact .inl rfl
    · rintro (rfl | ⟨p, hp, rfl⟩)
      · exact ⟨x, by simp, rfl⟩
      · exact ⟨p, by simp [hp], rfl⟩
  rw [tkD_snoc]
  by_cases h : x.1 = k
  · rw [← h, has_put_same (tkD_isMap l) (key_lit _)]
    rw [eq_comm, decide_eq_true_eq, h, e]; exact .inl h.symm
  · rw [has_put_other (lit_ne (fun e => h e.symm)), ih, Bool.eq_iff_iff, decide_eq_true_eq, decide_eq_true_eq, e]
    constructor
    · exact .inr
    · rintro (h1 | h1)
      · exact absurd h1.symm h
      · exact h1
/-- what has been told off, when 'left' is still to come. -/
def MgI (a b : List P2) (left : Lit → Bool) (L : List P2) : Prop :=
  (∀ x : P2, x ∈ L ↔ x.1 ∈ ticksL (a ++ b) ∧ left (.int .i64 x.1) = false ∧ x.2 = askL a x.1 + askL b x.1) ∧ (L.map (·.1)).Nodup
theorem MgI.start (a b : List P2) : MgI a b (has (tkD (a ++ b))) [] := by
  refine ⟨fun x => ?_, by simp⟩
  rw [has_tkD]
  constructor
  · intro h; cases h
  · rintro ⟨h1, h2, _⟩
    rw [decide_eq_false_iff_not] at h2
    exact absurd h1 h2
theorem MgI.take {a b : List P2} {left : Lit → Bool} {L : List P2} (h : MgI a b left L) {t : Int} (hlt : left (.int .i64 t) = true) (hv : t ∈ ticksL (a ++ b)) : MgI a b (fun z => left z && !z.sameKey (.int .i64 t)) (L ++ [(t, askL a t + askL b t)]) := by
  constructor
  · intro x
    rw [List.mem_append, h.1 x, List.mem_singleton]
    by_cases e : x.1 = t
    · constructor
      · rintro (⟨_, h2, _⟩ | h2)
        · rw [e, hlt] at h2; cases h2
        · subst h2
          exact ⟨hv, by simp [sameKey_int], rfl⟩
      · rintro ⟨h1, h2, h4⟩
        right
        obtain ⟨a, b⟩ := x
        simp only at e h4
        subst e
        rw [h4]
    · simp only [sameKey_int, e, decide_false, Bool.not_false, Bool.and_true]
      constructor
      · rintro (h1 | h1)
        · exact h1
        · subst h1; exact absurd rfl e
      · exact fun h1 => .inl h1
  · rw [List.map_append, List.map_singleton, List.nodup_append]
    refine ⟨h.2, by simp, ?_⟩
    intro a ha b hb
    rw [List.mem_singleton] at hb
    subst hb
    obtain ⟨x, hx, rfl⟩ := List.mem_map.1 ha
    have := ((h.1 x).1 hx).2.1
    intro e
    rw [e, hlt] at this
    cases this
theorem MgI.done {a b : List P2} {left : Lit → Bool} {L l' : List P2} (h : MgI a b left L) (hl : ∀ kl, left kl = false) (hp : l'.Perm L) (hs : l'.Pairwise (fun x y => x.1 ≤ y.1)) : l' = mrgL a b := by
  have hnd : (l'.map (·.1)).Nodup := (hp.map _).nodup_iff.2 h.2
  have hss : l'.Pairwise (fun x y => x.1 < y.1) := by
    have h1 : l'.Pairwise (fun x y => x.1 ≠ y.1) := List.pairwise_map.1 hnd
    exact (hs.and h1).imp fun ⟨a, b⟩ => by omega
  refine rise_eq hss (mrgL_sorted a b) fun x => ?_
  rw [hp.mem_iff, h.1 x, mem_mrgL]
  constructor
  · rintro ⟨h1, _, h4⟩; exact ⟨h1, h4⟩
  · rintro ⟨h1, h4⟩; exact ⟨h1, hl _, h4⟩

/-- orders that are followed at once, from the power 0 on. -/
structure RpOk (l : List P2) : Prop where
  len : l.length ≤ 12
  rng : ∀ (k : Nat) (x : P2), l[k]? = some x → (1 ≤ x.1 ∧ x.1 ≤ 60) ∧ (0 ≤ x.2 ∧ x.2 ≤ 1000)
  inc : ∀ (k : Nat) (x y : P2), l[k]? = some x → l[k + 1]? = some y → x.1 < y.1
theorem RpOk.od {l : List P2} (h : RpOk l) : OdOk l := ⟨by have := h.len; omega, fun k x hx => by have := h.rng k x hx; omega, h.inc⟩
def lasT (l : List P2) (k : Nat) : P2 := if k = 0 then (0, 0) else l[k - 1]?.getD (0, 0)
theorem lasT_succ {l : List P2} {k : Nat} {x : P2} (h : l[k]? = some x) : lasT l (k + 1) = x := by simp [lasT, h]
def stpS (l : List P2) (k : Nat) (x : P2) : S4 := (x.1, x.2, (lasT l k).2, (lasT l k).1)
def stpL (l : List P2) : List S4 := l.mapIdx (stpS l)
theorem stpL_len (l : List P2) : (stpL l).length = l.length := by simp [stpL]
theorem stpL_get {l : List P2} {k : Nat} {x : P2} (h : l[k]? = some x) : (stpL l)[k]? = some (stpS l k x) := by simp [stpL, h]
theorem stpL_take {l : List P2} {k : Nat} {x : P2} (h : l[k]? = some x) : (stpL l).take (k + 1) = (stpL l).take k ++ [stpS l k x] := by
  rw [List.take_add_one, stpL_get h]; rfl
/-- a step that is followed. -/
structure StOk (s : S4) : Prop where
  t : 1 ≤ s.1 ∧ s.1 ≤ 60
  p : 0 ≤ s.2.1 ∧ s.2.1 ≤ 1000
  b : 0 ≤ s.2.2.1 ∧ s.2.2.1 ≤ 1000
  s : 0 ≤ s.2.2.2 ∧ s.2.2.2 < s.1
theorem RpOk.las {l : List P2} (h : RpOk l) {k : Nat} {x : P2} (hx : l[k]? = some x) : (0 ≤ (lasT l k).1 ∧ (lasT l k).1 < x.1) ∧ (0 ≤ (lasT l k).2 ∧ (lasT l k).2 ≤ 1000) := by
  cases k with
  | zero => have := h.rng 0 x hx; simp [lasT]; omega
  | succ k =>
    obtain ⟨y, hy⟩ : ∃ y, l[k]? = some y := ⟨_, List.getElem?_eq_getElem (by have := (List.getElem?_eq_some_iff.1 hx).1; omega)⟩
    rw [lasT_succ hy]
    have h1 := h.rng k y hy
    have h2 := h.inc k y x hy hx
    omega
theorem RpOk.st {l : List P2} (h : RpOk l) {k : Nat} {x : P2} (hx : l[k]? = some x) : StOk (stpS l k x) := by
  have h1 := h.las hx
  have h2 := h.rng k x hx
  exact ⟨h2.1, h2.2, h1.2, h1.1⟩
theorem RpOk.sts {l : List P2} (h : RpOk l) {k : Nat} {s : S4} (hs : (stpL l)[k]? = some s) : StOk s := by
  have hk := (List.getElem?_eq_some_iff.1 hs).1
  rw [stpL_len] at hk
  have e := stpL_get (l := l) (List.getElem?_eq_getElem hk)
  rw [hs, Option.some.injEq] at e
  rw [e]
  exact h.st (List.getElem?_eq_getElem hk)
/-- the power of a step's ramp. -/
def stA (s : S4) (t : Int) : Int := if s.2.2.1 < s.2.1 then max s.2.2.1 (s.2.1 - 1000 * (s.1 - t)) else min s.2.2.1 (s.2.1 + 1000 * (s.1 - t))
theorem stA_rng {s : S4} (h : StOk s) {t : Int} (ht : t ≤ s.1) : 0 ≤ stA s t ∧ stA s t ≤ 1000 := by
  have h1 := h.p
  have h2 := h.b
  unfold stA
  split <;> omega
theorem stA_end (s : S4) : stA s s.1 = s.2.1 := by
  unfold stA
  split <;> omega
/-- the ramp. -/
def rmpG (l : List P2) (t : Int) : Int :=
  match (stpL l).find? (fun s => decide (t ≤ s.1)) with
  | some s => stA s t
  | none => (lasT l l.length).2
theorem rmpG_rng {l : List P2} (h : RpOk l) (t : Int) : 0 ≤ rmpG l t ∧ rmpG l t ≤ 1000 := by
  unfold rmpG
  cases hf : (stpL l).find? (fun s => decide (t ≤ s.1)) with
  | some s =>
    have h1 := List.find?_some hf
    obtain ⟨k, hk, e⟩ := List.mem_iff_getElem.1 (List.mem_of_find?_eq_some hf)
    exact stA_rng (h.sts (by rw [List.getElem?_eq_getElem hk, e])) (by simpa using h1)
  | none =>
    cases hl : l.length with
    | zero => simp [lasT]
    | succ k =>
      obtain ⟨y, hy⟩ : ∃ y, l[k]? = some y := ⟨_, List.getElem?_eq_getElem (by omega)⟩
      show 0 ≤ (lasT l (k + 1)).2 ∧ (lasT l (k + 1)).2 ≤ 1000
      rw [lasT_succ hy]
      exact (h.rng k y hy).2
theorem rise_get {l : List P2} (h : ∀ (k : Nat) (x y : P2), l[k]? = some x → l[k + 1]? = some y → x.1 < y.1) {i j : Nat} {x y : P2} (hx : l[i]? = some x) (hy : l[j]? = some y) (hij : i < j) : x.1 < y.1 := by
  induction j generalizing y with
  | zero => omega
  | succ j ih =>
    rcases Nat.lt_or_ge i j with h1 | h1
    · obtain ⟨z, hz⟩ : ∃ z, l[j]? = some z := ⟨_, List.getElem?_eq_getElem (by have := (List.getElem?_eq_some_iff.1 hy).1; omega)⟩
      have := ih hz h1
      have := h j z y hz hy
      omega
    · obtain rfl : i = j := by omega
      exact h i x y hx hy
theorem rmpG_at {l : List P2} (h : RpOk l) {k : Nat} {x : P2} (hx : l[k]? = some x) : rmpG l x.1 = x.2 := by
  have hg := stpL_get hx
  have hk := (List.getElem?_eq_some_iff.1 hx).1
  have hf : (stpL l).find? (fun s => decide (x.1 ≤ s.1)) = some (stpS l k x) := by
    rw [List.find?_eq_some_iff_getElem]
    refine ⟨by simp [stpS], k, by rw [stpL_len]; exact hk, by rw [← Option.some.injEq, ← List.getElem?_eq_getElem, hg], fun j hj => ?_⟩
    have hjl : j < l.length := by omega
    have e : (stpL l)[j]'(by rw [stpL_len]; exact hjl) = stpS l j l[j] := by
      rw [← Option.some.injEq, ← List.getElem?_eq_getElem, stpL_get (List.getElem?_eq_getElem hjl)]
    rw [e]
    have h9 := rise_get h.inc (List.getElem?_eq_getElem hjl) hx hj
    have h8 : ¬ x.1 ≤ (stpS l j l[j]).1 := by show ¬ x.1 ≤ (l[j]).1; omega
    simp [h8]
  unfold rmpG
  rw [hf]
  exact stA_end _
/-- rising lists with all that is asked for. -/
theorem mrg_rp {a b : List P2} (ha : a.length ≤ 6) (hb : b.length ≤ 6) (h0 : ∀ x ∈ a ++ b, (1 ≤ x.1 ∧ x.1 ≤ 60) ∧ 0 ≤ x.2 ∧ x.2 ≤ 1000) (hl : lrgB a b = false) : RpOk (mrgL a b) := by
  have hs := mrgL_sorted a b
  have hlen := mrgL_len a b
  have hm : ∀ x ∈ mrgL a b, (1 ≤ x.1 ∧ x.1 ≤ 60) ∧ (0 ≤ x.2 ∧ x.2 ≤ 1000) := fun x hx => by
    obtain ⟨h1, h2⟩ := (mem_mrgL a b x).1 hx
    obtain ⟨p, hp, e⟩ := (mem_ticksL _ _).1 h1
    have h3 := askL_rng (a := 0) (b := 1000) (by omega) (fun y hy => (h0 y (List.mem_append.2 (.inl hy))).2) x.1
    have h4 := askL_rng (a := 0) (b := 1000) (by omega) (fun y hy => (h0 y (List.mem_append.2 (.inr hy))).2) x.1
    have h5 : withinE x.2 (-1000) 1000 = 0 := by
      have := List.any_eq_false.1 hl x hx
      simpa using this
    have h6 := (withinG_zero.1 h5)
    rw [← e]
    exact ⟨(h0 p hp).1, by omega, by omega⟩
  refine ⟨by omega, fun k x hx => hm x (List.mem_of_getElem? hx), fun k x y hx hy => ?_⟩
  obtain ⟨h1, e1⟩ := List.getElem?_eq_some_iff.1 hx
  obtain ⟨h2, e2⟩ := List.getElem?_eq_some_iff.1 hy
  rw [← e1, ← e2]
  exact List.pairwise_iff_getElem.1 hs k (k + 1) h1 h2 (by omega)

/-- losses: three factors. -/
structure LsOk (a b c : Int) : Prop where
  a : 0 ≤ a ∧ a ≤ 1000
  b : 0 ≤ b ∧ b ≤ 1000
  c : 0 ≤ c ∧ c ≤ 1000
def losE (a b c : Int) : Int := firstE [withinE a 0 1000, withinE b 0 1000, withinE c 0 1000]
theorem losE_zero {a b c : Int} : losE a b c = 0 ↔ LsOk a b c := by
  unfold losE
  constructor
  · intro h
    have h1 : withinE a 0 1000 = 0 ∧ withinE b 0 1000 = 0 ∧ withinE c 0 1000 = 0 := by
      simp only [firstE] at h
      split at h
      · split at h
        · split at h
          · exact ⟨by assumption, by assumption, by assumption⟩
          · contradiction
        · contradiction
      · contradiction
    exact ⟨withinG_zero.1 h1.1, withinG_zero.1 h1.2.1, withinG_zero.1 h1.2.2⟩
  · intro h
    rw [withinG_zero.2 h.a, withinG_zero.2 h.b, withinG_zero.2 h.c]; rfl
def losN (a b c p : Int) : Int := a * 1048576 + b * p * 1024 + c * p * p
theorem losN_rng {a b c p : Int} (h : LsOk a b c) (hp : 0 ≤ p ∧ p ≤ 1000) : (0 ≤ b * p ∧ b * p ≤ 1000000) ∧ (0 ≤ c * p ∧ c * p ≤ 1000000) ∧ (0 ≤ c * p * p ∧ c * p * p ≤ 1000000000) ∧ 0 ≤ losN a b c p ∧ losN a b c p ≤ 3100000000 := by
  have ha := h.a
  have hb := h.b
  have hc := h.c
  have h1 : 0 ≤ b * p ∧ b * p ≤ 1000 * 1000 := ⟨Int.mul_nonneg hb.1 hp.1, Int.mul_le_mul hb.2 hp.2 hp.1 (by omega)⟩
  have h2 : 0 ≤ c * p ∧ c * p ≤ 1000 * 1000 := ⟨Int.mul_nonneg hc.1 hp.1, Int.mul_le_mul hc.2 hp.2 hp.1 (by omega)⟩
  have h3 : 0 ≤ c * p * p ∧ c * p * p ≤ 1000000 * 1000 := ⟨Int.mul_nonneg h2.1 hp.1, Int.mul_le_mul (by omega) hp.2 hp.1 (by omega)⟩
  unfold losN
  refine ⟨by omega, by omega, by omega, by omega, by omega⟩
def losLo (a b c p : Int) : Int := if p = 0 then 0 else (losN a b c p).tdiv 1048576
def losHi (a b c p : Int) : Int := if p = 0 then 0 else (losN a b c p + 1048576 - 1).tdiv 1048576
theorem los_rng {a b c p : Int} (h : LsOk a b c) (hp : 0 ≤ p ∧ p ≤ 1000) : (0 ≤ losLo a b c p ∧ losLo a b c p ≤ 10000) ∧ (0 ≤ losHi a b c p ∧ losHi a b c p ≤ 10000) := by
  obtain ⟨-, -, -, h1, h2⟩ := losN_rng h hp
  unfold losLo losHi
  split
  · omega
  · rw [Int.tdiv_eq_ediv_of_nonneg h1, Int.tdiv_eq_ediv_of_nonneg (by omega)]
    omega
def dlLo (a b c p : Int) : Int := max 0 (p - losHi a b c p)
def dlHi (a b c p : Int) : Int := max 0 (p - losLo a b c p)
theorem dl_rng {a b c p : Int} (h : LsOk a b c) (hp : 0 ≤ p ∧ p ≤ 1000) : (0 ≤ dlLo a b c p ∧ dlLo a b c p ≤ 1000) ∧ (0 ≤ dlHi a b c p ∧ dlHi a b c p ≤ 1000) := by
  have := los_rng h hp
  unfold dlLo dlHi
  omega
/-- sums. -/
def smL (f : Int → Int) (l : List Int) : Int := l.foldl (fun s x => s + f x) 0
theorem smL_snoc (f : Int → Int) (l : List Int) (x : Int) : smL f (l ++ [x]) = smL f l + f x := by simp [smL]
theorem smL_take (f : Int → Int) {l : List Int} {k : Nat} {x : Int} (hx : l[k]? = some x) : smL f (l.take (k + 1)) = smL f (l.take k) + f x := by
  rw [List.take_add_one, hx]; exact smL_snoc _ _ _
theorem smL_rng {f : Int → Int} {l : List Int} {m : Int} (hm : 0 ≤ m) (h : ∀ x ∈ l, 0 ≤ f x ∧ f x ≤ m) : 0 ≤ smL f l ∧ smL f l ≤ m * l.length := by
  revert h
  refine snoc_ind (p := fun l => (∀ x ∈ l, 0 ≤ f x ∧ f x ≤ m) → 0 ≤ smL f l ∧ smL f l ≤ m * l.length) (fun _ => by simp [smL]) (fun l x ih h => ?_) l
  have h1 := ih fun y hy => h y (by simp [hy])
  have h2 := h x (by simp)
  rw [smL_snoc, List.length_append, List.length_singleton]
  have h3 : m * ((l.length + 1 : Nat) : Int) = m * l.length + m := by rw [Int.natCast_add, Int.mul_add]; simp
  rw [h3]; omega
/-- the powers that are needed, and those for which they are. -/
structure Ned (a b c : Int) (P : List Int) (s : Int) (k : Nat) : Prop where
  len : P.length ≤ k
  rng : ∀ x ∈ P, 0 ≤ x ∧ x ≤ 1000
  sum : s ≤ smL (dlLo a b c) P
  low : 0 ≤ s ∧ s ≤ 1000 * k
theorem Ned.zero (a b c : Int) : Ned a b c [] 0 0 := ⟨by simp, by simp, by simp [smL], by omega⟩
theorem Ned.skip {a b c : Int} {P : List Int} {s : Int} {k : Nat} (h : Ned a b c P s k) : Ned a b c P s (k + 1) := ⟨by have := h.len; omega, h.rng, h.sum, by have := h.low; omega⟩
theorem Ned.take {a b c : Int} {P : List Int} {s : Int} {k : Nat} (h : Ned a b c P s k) {n p : Int} (hp : 0 ≤ p ∧ p ≤ 1000) (hn : p ≤ n ∧ n ≤ 1000) (hd : p ≤ dlLo a b c n) : Ned a b c (P ++ [n]) (s + p) (k + 1) := by
  refine ⟨by rw [List.length_append, List.length_singleton]; have := h.len; omega, fun x hx => ?_, by rw [smL_snoc]; have := h.sum; omega, by have := h.low; omega⟩
  rcases List.mem_append.1 hx with h1 | h1
  · exact h.rng x h1
  · rw [List.mem_singleton] at h1; subst h1; omega
end Go.Proofs.Ytipmjjnhdjcoiaa

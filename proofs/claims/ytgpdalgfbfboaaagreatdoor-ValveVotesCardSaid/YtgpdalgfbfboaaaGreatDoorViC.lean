/- Votes: the order of the logs, one log alone, three with a twin (plain facts). -/
import Derived.Test.YtgpdalgfbfboaaaGreatDoorVgC
import Derived.Test.YtgpdalgfbfboaaaGreatDoorVgE
import Derived.Test.YtgpdalgfbfboaaaGreatDoorVcJ
namespace Go.Proofs.YtgpdalgfbfboaaaGreatDoor
section
set_option linter.unusedSimpArgs false
set_option linter.unusedVariables false
open Go.RowKit
theorem yesC_cons (v : Nat) (x : Int) (l : List Int) : yesC v (x :: l) = bitV x v + yesC v l := by
 have h : ∀ (l : List Int) (a : Int), (l.map fun x => bitV x v).foldl (· + ·) a = a + (l.map fun x => bitV x v).foldl (· + ·) 0 := by
  intro l
  induction l with
  | nil => intro a; simp
  | cons y l ih => intro a; simp only [List.map_cons, List.foldl_cons]; rw [ih, ih (0 + bitV y v)]; omega
 unfold yesC
 simp only [List.map_cons, List.foldl_cons]
 rw [h]; omega
theorem yesC_perm {l m : List Int} (h : l.Perm m) (v : Nat) : yesC v l = yesC v m := by
 induction h with
 | nil => rfl
 | cons x _ ih => rw [yesC_cons, yesC_cons, ih]
 | swap x y l => rw [yesC_cons, yesC_cons, yesC_cons, yesC_cons]; omega
 | trans _ _ h1 h2 => exact h1.trans h2
theorem majK_perm {l m : List Int} (h : l.Perm m) (n : Nat) : majK l n = majK m n := by
 induction n with
 | zero => rfl
 | succ n ih => simp only [majK]; rw [ih, yesC_perm h, h.length_eq]
theorem votL_perm {l m : List P2} (h : l.Perm m) (t : Int) : (votL t l).Perm (votL t m) := (h.filter _).map _
theorem voteL_perm {l m : List P2} (h : l.Perm m) (n : Nat) : voteL n l = voteL n m := by
 refine rise_eq (voteL_sorted n l) (voteL_sorted n m) (fun x => ?_)
 have hp := votL_perm h x.1
 rw [mem_voteL, mem_voteL, mem_ticksL, mem_ticksL, hp.length_eq, majK_perm hp]
 constructor
 ·rintro ⟨⟨p, hp1, he⟩, h2⟩; exact ⟨⟨p, h.mem_iff.1 hp1, he⟩, h2⟩
 ·rintro ⟨⟨p, hp1, he⟩, h2⟩; exact ⟨⟨p, h.mem_iff.2 hp1, he⟩, h2⟩
theorem flatL_all (ls : List Lg) : flatL ls ls.length = ls.flatMap (·.2) := by unfold flatL; rw [List.take_of_length_le (Nat.le_refl _)]
theorem vote_turned (ls : List Lg) : voteL ls.reverse.length (flatL ls.reverse ls.reverse.length) = voteL ls.length (flatL ls ls.length) := by
 rw [flatL_all, flatL_all, List.length_reverse]
 exact voteL_perm ((List.reverse_perm ls).flatMap_right _) _
/-- all logs are valid, and no two have one controller. -/
theorem logs_one {ls : List Lg} : (∀ (k : Nat) (t : Lg), ls[k]? = some t → ((ls.take k).any fun o => o.1 == t.1) = false) ↔ (ls.map (·.1)).Nodup := by
 constructor
 ·intro h
  rw [List.nodup_iff_pairwise_ne, List.pairwise_map, List.pairwise_iff_getElem]
  intro i j hi hj hij e
  have h1 := h j ls[j] (List.getElem?_eq_getElem hj)
  rw [List.any_eq_false] at h1
  refine h1 ls[i] ?_ (by simpa using e)
  exact List.mem_of_getElem? (i := i) (by rw [List.getElem?_take]; simp [hij, hi])
 ·intro h k t ht
  rw [List.nodup_iff_pairwise_ne, List.pairwise_map, List.pairwise_iff_getElem] at h
  rw [List.any_eq_false]
  intro o ho
  obtain ⟨i, hi, rfl⟩ := List.mem_iff_getElem.1 ho
  rw [List.length_take] at hi
  obtain ⟨hk, rfl⟩ := List.getElem?_eq_some_iff.1 ht
  have := h i k (by omega) hk (by omega)
  rw [List.getElem_take]
  simpa using this
theorem logsE_of {ls : List Lg} (hl : ls.length ≤ 6) (hv : ∀ t ∈ ls, (0 ≤ t.1 ∧ t.1 ≤ 255) ∧ TrOk t.2) (hn : (ls.map (·.1)).Nodup) : logsE ls = 0 := by
 unfold logsE
 rw [if_neg (by omega)]
 refine eachE_all (fun k t ht => ?_)
 obtain ⟨h1, h2⟩ := hv t (List.mem_of_getElem? ht)
 rw [logsG_zero]
 have e : logE t.1 t.2 = 0 := by
  unfold logE
  rw [withinE_zero.2 h1, trainE_of_ok h2]; rfl
 rw [e, if_pos rfl, if_neg (by rw [logs_one.2 hn k t ht]; decide)]
theorem LgOk.nodup {ls : List Lg} (h : LgOk ls) : (ls.map (·.1)).Nodup := logs_one.1 h.one
theorem LgOk.all {ls : List Lg} (h : LgOk ls) : ∀ t ∈ ls, (0 ≤ t.1 ∧ t.1 ≤ 255) ∧ TrOk t.2 := fun t ht => by
 obtain ⟨k, hk⟩ := List.getElem?_of_mem ht
 exact h.rng k t hk
theorem turned_ok {ls : List Lg} (h : LgOk ls) : logsE ls.reverse = 0 :=
 logsE_of (by rw [List.length_reverse]; exact h.len) (fun t ht => h.all t (by simpa using ht)) (by rw [List.map_reverse]; exact (List.reverse_perm _).nodup_iff.2 h.nodup)
theorem emod2 (x p : Int) (hp : 0 < p) : x % (p * 2) = x % p + p * (x / p % 2) := by
 have h1 := Int.mul_ediv_add_emod x p
 have h2 := Int.mul_ediv_add_emod (x / p) 2
 have h3 := Int.emod_nonneg x (show p ≠ 0 by omega)
 have h4 := Int.emod_lt_of_pos x hp
 have h5 := Int.emod_nonneg (x / p) (show (2 : Int) ≠ 0 by omega)
 have h6 := Int.emod_lt_of_pos (x / p) (show (0 : Int) < 2 by omega)
 generalize x / p % 2 = b at *
 generalize x / p / 2 = q at *
 generalize x / p = y at *
 generalize x % p = r at *
 subst h1
 subst h2
 have e : p * (2 * q + b) + r = (p * b + r) + p * 2 * q := by grind
 rw [e, Int.add_mul_emod_self_left]
 have hb : b = 0 ∨ b = 1 := by omega
 rcases hb with rfl | rfl
 ·rw [Int.emod_eq_of_lt (by omega) (by omega)]; omega
 ·rw [Int.emod_eq_of_lt (by omega) (by omega)]; omega
/-- a set of twelve bits is made of its bits. -/
theorem bits_all {x : Int} (hx : 0 ≤ x ∧ x ≤ 4095) {L : List Int} (h : ∀ k, k < 12 → ((L.length : Int) < 2 * yesC k L ↔ bitV x k = 1)) : majK L 12 = x := by
 have key : ∀ n, n ≤ 12 → majK L n = x % 2 ^ n := by
  intro n
  induction n with
  | zero => intro _; simp [majK]
  | succ n ih =>
    intro hn
    simp only [majK]
    rw [ih (by omega)]
    have hb := bitV_rng x n
    have hm : x % 2 ^ (n + 1) = x % 2 ^ n + 2 ^ n * (x / 2 ^ n % 2) := by
     rw [Int.pow_succ]; exact emod2 x _ (pow_pos2 n)
    rw [hm]
    have hd : x / 2 ^ n % 2 = bitV x n := rfl
    rw [hd]
    by_cases hc : (L.length : Int) < 2 * yesC n L
    ·rw [if_pos hc, (h n (by omega)).1 hc, Int.mul_one]
    ·have h0 : bitV x n = 0 := by
      have h8 : ¬ bitV x n = 1 := fun e => hc ((h n (by omega)).2 e)
      omega
     rw [if_neg hc, h0, Int.mul_zero]
 rw [key 12 (Nat.le_refl _)]
 have e : (2 : Int) ^ 12 = 4096 := by decide
 rw [e]; omega
theorem vote_alone {t : List P2} (h : TrOk t) : voteL 1 t = t := by
 refine rise_eq (voteL_sorted 1 t) h.sorted (fun x => ?_)
 rw [mem_voteL, mem_ticksL, votL_at h]
 constructor
 ·rintro ⟨⟨p, hp, he⟩, h2, h3⟩
  have hb : atB t x.1 = true := by
   cases hc : atB t x.1
   ·rw [hc] at h2; simp at h2
   ·rfl
  rw [hb, if_pos rfl] at h3
  obtain ⟨q, hq, e1, e2⟩ := mem_votL (F := t) (t := x.1) (x := atD t x.1) (by rw [votL_at h, hb]; simp)
  have hm : majK [atD t x.1] 12 = atD t x.1 := bits_all (by have := (h.mem hq).2; omega) (fun k _ => by
   have := bitV_rng (atD t x.1) k
   rw [yesC_cons]
   simp [yesC]; omega)
  rw [hm, ← e2] at h3
  have : x = q := Prod.ext e1.symm h3
  rw [this]; exact hq
 ·intro hx
  have hat : atR t x.1 = some x.2 := by
   have := votL_sorted h.sorted x.1
   unfold atR
   have hf : t.find? (fun y => y.1 == x.1) = some x := by
    rw [List.find?_eq_some_iff_append]
    obtain ⟨i, hi, rfl⟩ := List.mem_iff_getElem.1 hx
    refine ⟨by simp, t.take i, t.drop (i + 1), ?_, fun y hy => ?_⟩
    ·rw [List.getElem_cons_drop, List.take_append_drop]
    ·obtain ⟨j, hj, rfl⟩ := List.mem_iff_getElem.1 hy
     rw [List.length_take] at hj
     have hs := h.sorted
     rw [List.pairwise_iff_getElem] at hs
     have := hs j i (by omega) hi (by omega)
     rw [List.getElem_take]
     simp; omega
   rw [hf]; rfl
  have hb : atB t x.1 = true := by unfold atB; rw [hat]; rfl
  have hd : atD t x.1 = x.2 := by unfold atD; rw [hat]; rfl
  refine ⟨⟨x, hx, rfl⟩, by rw [hb]; simp, ?_⟩
  rw [hb, if_pos rfl, hd]
  exact (bits_all (by have := (h.mem hx).2; omega) (fun k _ => by
   have := bitV_rng x.2 k
   rw [yesC_cons]
   simp [yesC]; omega)).symm
end
section
set_option linter.unusedSimpArgs false
set_option linter.unusedVariables false
open Go.RowKit
theorem yesC_nil (v : Nat) : yesC v [] = 0 := rfl
theorem vote_three {t u : List P2} (h : TrOk t) (hu : TrOk u) : voteL 3 (t ++ (t ++ u)) = t := by
 refine rise_eq (voteL_sorted 3 _) h.sorted (fun x => ?_)
 rw [mem_voteL, mem_ticksL, votL_append, votL_append, votL_at h, votL_at hu]
 have hor : ∀ (p q : Int) (k : Nat), ([p, p, q].length : Int) < 2 * yesC k [p, p, q] ↔ bitV p k = 1 := fun p q k => by
  have h1 := bitV_rng p k
  have h2 := bitV_rng q k
  rw [yesC_cons, yesC_cons, yesC_cons, yesC_nil]
  simp only [List.length_cons, List.length_nil]
  omega
 have hor2 : ∀ (p : Int) (k : Nat), ([p, p].length : Int) < 2 * yesC k [p, p] ↔ bitV p k = 1 := fun p k => by
  have h1 := bitV_rng p k
  rw [yesC_cons, yesC_cons, yesC_nil]
  simp only [List.length_cons, List.length_nil]
  omega
 have hmaj : ∀ (p : Int), (0 ≤ p ∧ p ≤ 4095) → majK ([p] ++ ([p] ++ if atB u x.1 = true then [atD u x.1] else [])) 12 = p := fun p hp => by
  cases atB u x.1
  ·exact bits_all hp (fun k _ => hor2 p k)
  ·exact bits_all hp (fun k _ => hor p (atD u x.1) k)
 constructor
 ·rintro ⟨-, h2, h3⟩
  have hb : atB t x.1 = true := by
   cases hc : atB t x.1
   ·rw [hc] at h2
    cases hd : atB u x.1 <;> rw [hd] at h2 <;> simp at h2
   ·rfl
  obtain ⟨q, hq, e1, e2⟩ := mem_votL (F := t) (t := x.1) (x := atD t x.1) (by rw [votL_at h, hb]; simp)
  rw [hb, if_pos rfl, hmaj _ (by have := (h.mem hq).2; omega), ← e2] at h3
  have : x = q := Prod.ext e1.symm h3
  rw [this]; exact hq
 ·intro hx
  have hat := atR_mem h.sorted hx
  have hb : atB t x.1 = true := by unfold atB; rw [hat]; rfl
  have hd : atD t x.1 = x.2 := by unfold atD; rw [hat]; rfl
  refine ⟨⟨x, by simp [hx], rfl⟩, ?_, ?_⟩
  ·rw [hb]
   cases atB u x.1 <;> simp
  ·rw [hb, if_pos rfl, hd, hmaj _ (by have := (h.mem hx).2; omega)]
theorem bitV_add {a c : Int} {n k : Nat} (ha : 0 ≤ a ∧ a < 2 ^ n) (hc : c = 0 ∨ c = 1) : bitV (a + c * 2 ^ n) k = if k < n then bitV a k else if k = n then c else 0 := by
 have hp : (0 : Int) < 2 ^ k := pow_pos2 k
 unfold bitV
 by_cases hk : k < n
 ·rw [if_pos hk]
  obtain ⟨d, rfl⟩ : ∃ d, n = k + 1 + d := ⟨n - (k + 1), by omega⟩
  have e : c * 2 ^ (k + 1 + d) = 2 ^ k * (2 * (c * 2 ^ d)) := by rw [Int.pow_add, Int.pow_succ]; grind
  rw [e, Int.add_mul_ediv_left _ _ (by omega), Int.add_mul_emod_self_left]
 ·rw [if_neg hk]
  by_cases he : k = n
  ·subst he
   rw [if_pos rfl, Int.mul_comm, Int.add_mul_ediv_left _ _ (by omega), Int.ediv_eq_zero_of_lt ha.1 ha.2]
   omega
  ·rw [if_neg he]
   obtain ⟨d, rfl⟩ : ∃ d, k = n + 1 + d := ⟨k - (n + 1), by omega⟩
   have h1 : (0 : Int) < 2 ^ d := pow_pos2 d
   have h2 : (2 : Int) ^ (n + 1 + d) = 2 ^ n * 2 * 2 ^ d := by rw [Int.pow_add, Int.pow_succ]
   have h3 : (2 : Int) ^ n * 2 * 1 ≤ 2 ^ n * 2 * 2 ^ d := Int.mul_le_mul_of_nonneg_left (by omega) (by have := pow_pos2 n; omega)
   have h4 : a + c * 2 ^ n < 2 ^ (n + 1 + d) := by
    rw [h2]
    rcases hc with rfl | rfl
    ·have := pow_pos2 n; omega
    ·omega
   rw [Int.ediv_eq_zero_of_lt (by rcases hc with rfl | rfl <;> have := pow_pos2 n <;> omega) h4]
   rfl
theorem majK_bit (L : List Int) {k : Nat} : ∀ n, bitV (majK L n) k = if k < n ∧ (L.length : Int) < 2 * yesC k L then 1 else 0
 | 0 => by simp [majK, bitV]
 | n + 1 => by
   have ih := majK_bit L (k := k) n
   have hr := majK_rng L n
   have e : majK L (n + 1) = majK L n + (if (L.length : Int) < 2 * yesC n L then 1 else 0) * 2 ^ n := by
    simp only [majK]
    split <;> simp
   rw [e, bitV_add hr (by split <;> simp), ih]
   by_cases h1 : k < n
   ·have h2 : k < n + 1 := by omega
    simp [h1, h2]
   ·by_cases h2 : k = n
    ·subst h2; simp
    ·have h3 : ¬ k < n + 1 := by omega
     simp [h1, h2, h3]
theorem behind_empty {ls : List Lg} (h : LgOk ls) {i : Int} (hi : i ∈ behK ls 100000 ls.length) : ∃ k : Nat, i = (k : Int) ∧ k < ls.length ∧ (ls[k]?.getD (0, [])).2 = [] := by
 unfold behK at hi
 obtain ⟨k, hk, rfl⟩ := List.mem_map.1 hi
 rw [List.mem_filter, List.mem_range, decide_eq_true_eq] at hk
 refine ⟨k, rfl, hk.1, ?_⟩
 have hm := mostT_rng h
 have hl : lastT (ls[k]?.getD (0, [])).2 < 0 := by omega
 obtain ⟨-, hok⟩ := h.rng k _ (List.getElem?_eq_getElem hk.1)
 rw [List.getElem?_eq_getElem hk.1, Option.getD_some] at hl ⊢
 unfold lastT at hl
 split at hl
 ·exact List.eq_nil_of_length_eq_zero (by assumption)
 ·have := (hok.at (ls[k].2.length - 1)).1
  omega
end
section
set_option linter.unusedSimpArgs false
set_option linter.unusedVariables false
open Go.RowKit
theorem Tryz.infZbipoleref07Log : (Tryz.prog.info? 34).map (fun i => (i.zero, i.size, i.bytes)) = some (some (.agg #[.int .i64 0, .slice none 0 0]), 2, 32) := by kernel_rfl
theorem Tryz.undZbipoleref07Log : Tryz.prog.underlying 22 = some (.slice 34) := by kernel_rfl
theorem lgs1 {w : World} {B : Nat} {T : TypeId} {a : Option Addr} {n c : Nat} {x : Int} {t : List P2} (h : Blk w B T [.int .i64 x, .slice a n c]) (h1 : Prs w (.slice a n c) t) :
 Lgs w (.slice (some ⟨B, 0, none⟩) 1 1) [(x, a, n, c)] [(x, t)] :=
 ⟨Rw.of_blk lV_len (l := [(x, a, n, c)]) h 1 1 rfl (Nat.le_refl _), rfl, fun k r u hr hu => by
  match k with
  | 0 => simp at hr hu; subst hr; subst hu; exact ⟨rfl, h1⟩
  | k + 1 => simp at hr⟩
theorem lgs3 {w : World} {B : Nat} {T : TypeId} {a1 a2 a3 : Option Addr} {n1 c1 n2 c2 n3 c3 : Nat} {x1 x2 x3 : Int} {t1 t2 t3 : List P2} (h : Blk w B T [.int .i64 x1, .slice a1 n1 c1, .int .i64 x2, .slice a2 n2 c2, .int .i64 x3, .slice a3 n3 c3])
 (h1 : Prs w (.slice a1 n1 c1) t1) (h2 : Prs w (.slice a2 n2 c2) t2) (h3 : Prs w (.slice a3 n3 c3) t3) :
 Lgs w (.slice (some ⟨B, 0, none⟩) 3 3) [(x1, a1, n1, c1), (x2, a2, n2, c2), (x3, a3, n3, c3)] [(x1, t1), (x2, t2), (x3, t3)] :=
 ⟨Rw.of_blk lV_len (l := [(x1, a1, n1, c1), (x2, a2, n2, c2), (x3, a3, n3, c3)]) h 3 3 rfl (Nat.le_refl _), rfl, fun k r u hr hu => by
  match k with
  | 0 => simp at hr hu; subst hr; subst hu; exact ⟨rfl, h1⟩
  | 1 => simp at hr hu; subst hr; subst hu; exact ⟨rfl, h2⟩
  | 2 => simp at hr hu; subst hr; subst hu; exact ⟨rfl, h3⟩
  | k + 3 => simp at hr⟩
theorem Lgs.turned {w : World} {u v : Value} {rs : List LgV} {ls : List Lg} (h : Lgs w v rs ls) (hu : Rw 2 lV w u rs.reverse) : Lgs w u rs.reverse ls.reverse :=
 ⟨hu, by rw [List.length_reverse, List.length_reverse, h.len], fun k r t hr ht => by
  have hk := (List.getElem?_eq_some_iff.1 hr).1
  rw [List.length_reverse] at hk
  rw [List.getElem?_reverse hk] at hr
  rw [List.getElem?_reverse (by rw [← h.len]; exact hk), ← h.len] at ht
  exact h.ok _ r t hr ht⟩
theorem rev_at {α : Type} {l : List α} {N k : Nat} (hN : N = l.length) (hk : k < N) {x : α} (hx : l[N - 1 - k]? = some x) : l.reverse.take (k + 1) = l.reverse.take k ++ [x] := by
 rw [List.take_add_one, List.getElem?_reverse (by omega), ← hN, hx]; rfl
/-- how many have each valve. -/
def insL (L : List Int) : List Int := upto (fun v => yesC v L) 12
/-- the same, with one more vote for the valves below m. -/
def insM (L : List Int) (x : Int) (m : Nat) : List Int := upto (fun v => if v < m then yesC v (L ++ [x]) else yesC v L) 12
theorem insL_len (L : List Int) : (insL L).length = 12 := upto_length _ _
theorem insM_len (L : List Int) (x : Int) (m : Nat) : (insM L x m).length = 12 := upto_length _ _
theorem insM_zero (L : List Int) (x : Int) : insM L x 0 = insL L := rfl
theorem insM_end (L : List Int) (x : Int) : insM L x 12 = insL (L ++ [x]) := by
 unfold insM insL upto
 apply List.map_congr_left
 intro v hv
 rw [if_pos (List.mem_range.1 hv)]
theorem insL_at (L : List Int) {k : Nat} (hk : k < 12) : (insL L)[k]?.getD 0 = yesC k L := by
 unfold insL
 rw [upto_get _ _ _ hk]; rfl
theorem insM_at (L : List Int) (x : Int) {m : Nat} (hm : m < 12) : (insM L x m)[m]?.getD 0 = yesC m L := by
 unfold insM
 rw [upto_get _ _ _ hm, if_neg (by omega)]; rfl
theorem insM_set (L : List Int) (x : Int) (m : Nat) : (insM L x m).set m (yesC m L + bitV x m) = insM L x (m + 1) := by
 unfold insM
 refine upto_set _ _ _ _ _ ?_ ?_
 ·rw [if_pos (by omega), yesC_snoc]
 ·intro j hj
  by_cases h : j < m
  ·rw [if_pos (by omega), if_pos h]
  ·rw [if_neg (by omega), if_neg h]
theorem insM_same (L : List Int) (x : Int) {m : Nat} (hm : m < 12) (h : bitV x m = 0) : insM L x (m + 1) = insM L x m := by
 rw [← insM_set, h, Int.add_zero]
 unfold insM
 refine upto_set _ _ _ _ _ ?_ (fun j hj => rfl)
 rw [if_neg (by omega)]
theorem vote_len {ls : List Lg} (h : LgOk ls) : (voteL ls.length (flatL ls ls.length)).length ≤ 2000 := by
 have h1 := votT_end (n := ls.length) (F := flatL ls ls.length) (t := 100001) (fun p hp => by have := (flatL_rg h hp).1; omega)
 rw [← h1]
 have h2 := votT_len ls.length (flatL ls ls.length) 100001
 have h3 := flatL_len h ls.length
 have := h.len
 omega
/-- a voted tick. -/
theorem vote_at {ls : List Lg} (h : LgOk ls) {k : Nat} {x : P2} (hx : (voteL ls.length (flatL ls ls.length))[k]? = some x) : (0 ≤ x.1 ∧ x.1 ≤ 100000) ∧ (0 ≤ x.2 ∧ x.2 ≤ 4095) ∧ ls.length < 2 * (votL x.1 (flatL ls ls.length)).length ∧ x.2 = majK (votL x.1 (flatL ls ls.length)) 12 := by
 obtain ⟨h1, h2, h3⟩ := (mem_voteL _ _ _).1 (List.mem_of_getElem? hx)
 obtain ⟨p, hp, he⟩ := (mem_ticksL _ _).1 h1
 have hr := (flatL_rg h hp).1
 have hm := majK_rng (votL x.1 (flatL ls ls.length)) 12
 have e : (2 : Int) ^ 12 = 4096 := by decide
 rw [e, ← h3] at hm
 exact ⟨by omega, by omega, h2, h3⟩
theorem vote_next {ls : List Lg} {k : Nat} {x y : P2} (hx : (voteL ls.length (flatL ls ls.length))[k]? = some x) (hy : (voteL ls.length (flatL ls ls.length))[k + 1]? = some y) : x.1 < y.1 := by
 have hs := voteL_sorted ls.length (flatL ls ls.length)
 rw [List.pairwise_iff_getElem] at hs
 obtain ⟨h1, rfl⟩ := List.getElem?_eq_some_iff.1 hx
 obtain ⟨h2, rfl⟩ := List.getElem?_eq_some_iff.1 hy
 exact hs k (k + 1) h1 h2 (by omega)
theorem one_ok {x : Lg} (h : (0 ≤ x.1 ∧ x.1 ≤ 255) ∧ TrOk x.2) : logsE [x] = 0 :=
 logsE_of (by simp) (fun t ht => by simp at ht; subst ht; exact h) (by simp)
theorem three_ok {c : Int} {t u : List P2} (hc : 0 ≤ c ∧ c ≤ 255) (ht : TrOk t) (hu : TrOk u) : logsE [(c, t), ((c + 1) % 256, t), ((c + 2) % 256, u)] = 0 :=
 logsE_of (by simp) (fun x hx => by
  simp at hx
  rcases hx with rfl | rfl | rfl
  ·exact ⟨hc, ht⟩
  ·exact ⟨by dsimp only; omega, ht⟩
  ·exact ⟨by dsimp only; omega, hu⟩) (by
  simp only [List.map_cons, List.map_nil, List.nodup_cons, List.mem_cons, List.not_mem_nil, or_false, not_or, not_false_eq_true, List.nodup_nil, and_true]
  omega)
/-- the tick before the k-th one. -/
def lstV (VL : List P2) : Nat → Int
 | 0 => -1
 | k + 1 => (VL[k]?.getD (0, 0)).1
theorem votR_of {ls : List Lg} (h : logsE ls = 0) : votR ls = voteL ls.length (flatL ls ls.length) := by unfold votR; rw [if_pos h]
theorem vote1 {c : Int} {t : List P2} (h : (0 ≤ c ∧ c ≤ 255) ∧ TrOk t) : votE [(c, t)] = 0 ∧ votR [(c, t)] = t := by
 have h0 : logsE [(c, t)] = 0 := one_ok h
 refine ⟨h0, ?_⟩
 rw [votR_of h0, flatL_all]
 simp only [List.length_cons, List.length_nil, List.flatMap_cons, List.flatMap_nil, List.append_nil]
 exact vote_alone h.2
theorem vote3 {c : Int} {t u : List P2} (hc : 0 ≤ c ∧ c ≤ 255) (ht : TrOk t) (hu : TrOk u) : votE [(c, t), ((c + 1) % 256, t), ((c + 2) % 256, u)] = 0 ∧ votR [(c, t), ((c + 1) % 256, t), ((c + 2) % 256, u)] = t := by
 have h0 := three_ok hc ht hu
 refine ⟨h0, ?_⟩
 rw [votR_of h0, flatL_all]
 simp only [List.length_cons, List.length_nil, List.flatMap_cons, List.flatMap_nil, List.append_nil]
 exact vote_three ht hu
end
end Go.Proofs.YtgpdalgfbfboaaaGreatDoor

/- Logs: what the reference computes (plain facts). -/
import Derived.Test.YtgdkomgfalkihaaGreatDoorVeE
import Derived.Test.YtgdkomgfalkihaaGreatDoorVcI
namespace Go.Proofs.YtgdkomgfalkihaaGreatDoor
section
set_option linter.unusedSimpArgs false
set_option linter.unusedVariables false
open Go.RowKit
theorem votL_sorted {t : List P2} (h : t.Pairwise (fun x y => x.1 < y.1)) (x : Int) : votL x t = (atR t x).toList := by
 induction t with
 | nil => rfl
 | cons p t ih =>
   rw [List.pairwise_cons] at h
   have e1 : votL x (p :: t) = votL x [p] ++ votL x t := by rw [← votL_append]; rfl
   rw [e1, ih h.2]
   by_cases hp : p.1 = x
   ·have e2 : (t.find? fun y => y.1 == x) = none := by
     rw [List.find?_eq_none]; intro y hy; have := h.1 y hy; simp; omega
    have e3 : votL x [p] = [p.2] := by simp [votL, hp]
    have hp' : (p.1 == x) = true := by simpa using hp
    rw [e3]; unfold atR; rw [e2, List.find?_cons, hp']; rfl
   ·have e3 : votL x [p] = [] := by simp [votL, hp]
    have hp' : (p.1 == x) = false := by simpa using hp
    rw [e3]; unfold atR; rw [List.find?_cons, hp']; rfl
theorem votL_at {t : List P2} (h : TrOk t) (x : Int) : votL x t = if atB t x = true then [atD t x] else [] := by
 rw [votL_sorted h.sorted]
 unfold atB atD
 cases atR t x <;> rfl
theorem mem_votL {F : List P2} {t x : Int} (h : x ∈ votL t F) : ∃ p ∈ F, p.1 = t ∧ p.2 = x := by
 unfold votL at h
 obtain ⟨p, hp, rfl⟩ := List.mem_map.1 h
 rw [List.mem_filter] at hp
 exact ⟨p, hp.1, by simpa using hp.2, rfl⟩
theorem flatL_mem {ls : List Lg} {k : Nat} {p : P2} (h : p ∈ flatL ls k) : ∃ t ∈ ls, p ∈ t.2 := by
 obtain ⟨t, ht, hp⟩ := List.mem_flatMap.1 h
 exact ⟨t, List.mem_of_mem_take ht, hp⟩
theorem flatL_rg {ls : List Lg} (h : LgOk ls) {k : Nat} {p : P2} (hp : p ∈ flatL ls k) : (0 ≤ p.1 ∧ p.1 ≤ 100000) ∧ 0 ≤ p.2 ∧ p.2 ≤ 4095 := by
 obtain ⟨t, ht, hm⟩ := flatL_mem hp
 obtain ⟨j, hj⟩ := List.getElem?_of_mem ht
 exact ((h.rng j t hj).2).mem hm
/-- the next tick from t on that a pulse has, or 100001. -/
def minK (t : Int) (F : List P2) : Int := F.foldl (fun n p => if t ≤ p.1 then min n p.1 else n) 100001
theorem minK_snoc (t : Int) (F : List P2) (p : P2) : minK t (F ++ [p]) = if t ≤ p.1 then min (minK t F) p.1 else minK t F := by simp [minK]
theorem minK_spec (t : Int) (F : List P2) : minK t F ≤ 100001 ∧ (∀ p ∈ F, t ≤ p.1 → minK t F ≤ p.1) ∧ (minK t F = 100001 ∨ ∃ p ∈ F, p.1 = minK t F ∧ t ≤ p.1) := by
 refine snoc_ind (p := fun F => minK t F ≤ 100001 ∧ (∀ p ∈ F, t ≤ p.1 → minK t F ≤ p.1) ∧ (minK t F = 100001 ∨ ∃ p ∈ F, p.1 = minK t F ∧ t ≤ p.1)) ⟨by simp [minK], by simp, .inl (by simp [minK])⟩ (fun l x ih => ?_) F
 obtain ⟨h1, h2, h3⟩ := ih
 rw [minK_snoc]
 by_cases hx : t ≤ x.1
 ·rw [if_pos hx]
  refine ⟨by omega, fun p hp ht => ?_, ?_⟩
  ·rcases List.mem_append.1 hp with hp | hp
   ·have := h2 p hp ht; omega
   ·rw [List.mem_singleton] at hp; subst hp; omega
  ·by_cases hm : minK t l ≤ x.1
   ·rw [Int.min_eq_left hm]
    rcases h3 with h3 | ⟨p, hp, he, ht⟩
    ·exact .inl h3
    ·exact .inr ⟨p, by simp [hp], he, ht⟩
   ·rw [Int.min_eq_right (by omega)]
    exact .inr ⟨x, by simp, rfl, hx⟩
 ·rw [if_neg hx]
  refine ⟨h1, fun p hp ht => ?_, ?_⟩
  ·rcases List.mem_append.1 hp with hp | hp
   ·exact h2 p hp ht
   ·rw [List.mem_singleton] at hp; subst hp; omega
  ·rcases h3 with h3 | ⟨p, hp, he, ht⟩
   ·exact .inl h3
   ·exact .inr ⟨p, by simp [hp], he, ht⟩
/-- the vote so far: for the ticks before t. -/
def votT (n : Nat) (F : List P2) (t : Int) : List P2 := (voteL n F).filter (fun x => decide (x.1 < t))
theorem votT_end {n : Nat} {F : List P2} {t : Int} (hF : ∀ p ∈ F, p.1 < t) : votT n F t = voteL n F := by
 unfold votT
 rw [List.filter_eq_self]
 intro x hx
 obtain ⟨h1, -, -⟩ := (mem_voteL n F x).1 hx
 obtain ⟨p, hp, he⟩ := (mem_ticksL F x.1).1 h1
 have := hF p hp
 simp; omega
theorem votT_start {n : Nat} {F : List P2} (hF : ∀ p ∈ F, 0 ≤ p.1) : votT n F 0 = [] := by
 unfold votT
 rw [List.filter_eq_nil_iff]
 intro x hx
 obtain ⟨h1, -, -⟩ := (mem_voteL n F x).1 hx
 obtain ⟨p, hp, he⟩ := (mem_ticksL F x.1).1 h1
 have := hF p hp
 simp; omega
theorem votT_step {n : Nat} {F : List P2} {t m : Int} (hF : ∀ p ∈ F, p.1 ≤ 100000) (ht : t ≤ 100000) (hm : m = minK t F) :
 votT n F (m + 1) = votT n F t ++ (if m ≤ 100000 then (if n < 2 * (votL m F).length then [(m, majK (votL m F) 12)] else []) else []) := by
 obtain ⟨h1, h2, h3⟩ := minK_spec t F
 rw [← hm] at h1 h2 h3
 have htm : t ≤ m := by
  rcases h3 with h3 | ⟨p, _, he, hp⟩ <;> omega
 have hs : ∀ a, (votT n F a).Pairwise (fun x y => x.1 < y.1) := fun a => (voteL_sorted n F).filter _
 have hmem : ∀ a x, x ∈ votT n F a ↔ x ∈ voteL n F ∧ x.1 < a := fun a x => by unfold votT; rw [List.mem_filter, decide_eq_true_eq]
 refine rise_eq (hs _) ?_ (fun x => ?_)
 ·rw [List.pairwise_append]
  refine ⟨hs t, ?_, fun x hx y hy => ?_⟩
  ·split
   ·split <;> simp
   ·simp
  ·have hx1 := ((hmem t x).1 hx).2
   split at hy
   ·split at hy
    ·rw [List.mem_singleton] at hy; subst hy; show x.1 < m; omega
    ·cases hy
   ·cases hy
 ·rw [List.mem_append, hmem, hmem]
  constructor
  ·rintro ⟨hx, hlt⟩
   by_cases hx1 : x.1 < t
   ·exact .inl ⟨hx, hx1⟩
   ·refine .inr ?_
    obtain ⟨g1, g2, g3⟩ := (mem_voteL n F x).1 hx
    obtain ⟨p, hp, he⟩ := (mem_ticksL F x.1).1 g1
    have := h2 p hp (by omega)
    have h9 := hF p hp
    have hxm : x.1 = m := by omega
    rw [hxm] at g2 g3
    rw [if_pos (by omega), if_pos g2, List.mem_singleton]
    exact Prod.ext hxm g3
  ·rintro (⟨hx, hlt⟩ | hx)
   ·exact ⟨hx, by omega⟩
   ·split at hx
    ·rename_i hm1
     split at hx
     ·rename_i hm2
      rw [List.mem_singleton] at hx
      subst hx
      refine ⟨(mem_voteL n F _).2 ⟨?_, hm2, rfl⟩, by show m < m + 1; omega⟩
      rcases h3 with h3 | ⟨p, hp, he, _⟩
      ·omega
      ·exact (mem_ticksL F m).2 ⟨p, hp, he⟩
     ·cases hx
    ·cases hx
theorem minK_ge {t : Int} {F : List P2} (ht : t ≤ 100000) : t ≤ minK t F := by
 obtain ⟨h1, h2, h3⟩ := minK_spec t F
 rcases h3 with h3 | ⟨p, _, he, hp⟩ <;> omega
/-- the latest last tick of the first k logs. -/
def mxK (ls : List Lg) : Nat → Int
 | 0 => -1
 | k + 1 => max (mxK ls k) (lastT (ls[k]?.getD (0, [])).2)
theorem maxN_ge (l : List Int) : ∀ k j, j ≤ k → l[j]?.getD 0 ≤ maxN l k
 | 0, j, h => by
   obtain rfl : j = 0 := by omega
   exact Int.le_refl _
 | k + 1, j, h => by
   unfold maxN
   by_cases hj : j = k + 1
   ·subst hj
    split <;> omega
   ·have := maxN_ge l k j (by omega)
    split <;> omega
theorem mxK_spec (ls : List Lg) : ∀ k, -1 ≤ mxK ls k ∧ (∀ j, j < k → lastT (ls[j]?.getD (0, [])).2 ≤ mxK ls k) ∧ (mxK ls k = -1 ∨ ∃ j, j < k ∧ mxK ls k = lastT (ls[j]?.getD (0, [])).2)
 | 0 => ⟨by simp [mxK], fun j h => by omega, .inl rfl⟩
 | k + 1 => by
   obtain ⟨h1, h2, h3⟩ := mxK_spec ls k
   unfold mxK
   refine ⟨by omega, fun j hj => ?_, ?_⟩
   ·by_cases hjk : j = k
    ·subst hjk; omega
    ·have := h2 j (by omega); omega
   ·by_cases hm : mxK ls k ≤ lastT (ls[k]?.getD (0, [])).2
    ·rw [Int.max_eq_right hm]; exact .inr ⟨k, by omega, rfl⟩
    ·rw [Int.max_eq_left (by omega)]
     rcases h3 with h3 | ⟨j, hj, he⟩
     ·exact .inl h3
     ·exact .inr ⟨j, by omega, he⟩
theorem mxK_most (ls : List Lg) : mxK ls ls.length = mostT ls := by
 obtain ⟨h1, h2, h3⟩ := mxK_spec ls ls.length
 have hlen : (ls.map (fun t : Lg => lastT t.2) ++ [-1]).length = ls.length + 1 := by simp
 have hat : ∀ j, j < ls.length → (ls.map (fun t : Lg => lastT t.2) ++ [-1])[j]?.getD 0 = lastT (ls[j]?.getD (0, [])).2 := fun j hj => by
  rw [List.getElem?_append_left (by simpa using hj), List.getElem?_map, List.getElem?_eq_getElem hj]; rfl
 have hlast : (ls.map (fun t : Lg => lastT t.2) ++ [-1])[ls.length]?.getD 0 = -1 := by
  rw [List.getElem?_append_right (by simp)]; simp
 have hge : ∀ j, j ≤ ls.length → (ls.map (fun t : Lg => lastT t.2) ++ [-1])[j]?.getD 0 ≤ mostT ls := fun j hj => by
  unfold mostT maxW
  exact maxN_ge _ _ j (by omega)
 apply Int.le_antisymm
 ·rcases h3 with h3 | ⟨j, hj, he⟩
  ·have := hge ls.length (Nat.le_refl _)
   omega
  ·have := hge j (by omega)
   rw [hat j hj] at this
   omega
 ·unfold mostT maxW
  refine maxN_mem _ (fun x => x ≤ mxK ls ls.length) (fun x hx => ?_) _ (by omega)
  rcases List.mem_append.1 hx with hx | hx
  ·obtain ⟨t, ht, rfl⟩ := List.mem_map.1 hx
   obtain ⟨j, hj, he⟩ := List.mem_iff_getElem.1 ht
   have := h2 j hj
   rw [List.getElem?_eq_getElem hj, he] at this
   exact this
  ·rw [List.mem_singleton] at hx; omega
/-- the error of one log in its place. -/
theorem logsG_zero {ls : List Lg} {k : Nat} {t : Lg} : logsG ls k t = (if logE t.1 t.2 = 0 then (if ((ls.take k).any fun o => o.1 == t.1) = true then 9 else 0) else logE t.1 t.2) := by
 unfold logsG
 by_cases h : logE t.1 t.2 = 0
 ·rw [h, if_pos rfl]
  cases (ls.take k).any fun o => o.1 == t.1 <;> rfl
 ·rw [if_neg h]
  unfold firstE
  rw [if_neg (by simpa using h)]
end
section
set_option linter.unusedSimpArgs false
set_option linter.unusedVariables false
open Go.RowKit
set_option maxRecDepth 100000 in
set_option maxHeartbeats 1000000 in
theorem lastR_any (a : Option Addr) (n cap : Nat) (t : List P2) (w : World) (ht : t.length ≤ 1000000) (hv : Prs w (.slice a n cap) t) :
 Calls Tryz.prog 91 #[.slice a n cap] w fun r w' => r = .returned (.int .i64 (lastT t)) ∧ w = w' := by
 have hn := hv.len
 rcases Nat.eq_zero_or_pos n with h0 | h0
 ·have hL : lastT t = -1 := by unfold lastT; rw [if_pos (by omega)]
  rw [hL]
  subst h0
  clear hL hv hn ht
  go_enter Tryz.func91, Tryz.ntmps91
  go_wp2
  go_ret
  exact ⟨rfl, rfl⟩
 ·have hL : lastT t = (t[n - 1]?.getD (0, 0)).1 := by unfold lastT; rw [if_neg (by omega), hn]
  obtain ⟨x, hx⟩ : ∃ x, t[n - 1]? = some x := ⟨_, List.getElem?_eq_getElem (by omega)⟩
  rw [hL, hx, Option.getD_some]
  obtain ⟨b, off, cp, he, hcs⟩ := hv.head (by omega)
  simp only [Value.slice.injEq] at he
  obtain ⟨rfl, -, rfl⟩ := he
  obtain ⟨c0, -⟩ := rw2 (hcs (n - 1) x hx) (show pV x = [.int .i64 x.1, .int .i64 x.2] from rfl)
  obtain ⟨x0, hx0⟩ : ∃ y, y = x.1 := ⟨_, rfl⟩
  rw [← hx0] at c0 ⊢
  have hn9 : n ≤ 1000000 := by omega
  clear hcs hL hx hv hn ht hx0
  have b0 : ((n : Int) == 0) = false := by rw [beq_eq_false_iff_ne]; omega
  have e1 : IntKind.i64.wrap ((n : Int) - 1) = (n : Int) - 1 := IntWalk.i64_in _ (by omega)
  have e2 : (0 : Int) ≤ (n : Int) - 1 := by omega
  have e3 : ((n : Int) - 1).toNat = n - 1 := by omega
  have e4 : (n : Int) - 1 < (n : Int) := by omega
  have e5 : (1 : Int) ≤ (n : Int) := by omega
  go_enter Tryz.func91, Tryz.ntmps91
  go_wp2
  go_ret
  exact ⟨rfl, rfl⟩
set_option maxRecDepth 100000 in
set_option maxHeartbeats 4000000 in
theorem BehindR_any (v : Value) (rs : List LgV) (ls : List Lg) (lim : Int) (w : World) (hok : LgOk ls) (hv : Lgs w v rs ls) :
 Calls Tryz.prog 37 #[v, .int .i64 lim] w fun r w' => (∃ u, r = .returned u ∧ Ints w' u (behK ls lim ls.length)) ∧ Below w.heap.size w w' := by
 have HV := Lib.hid hv
 have HOK := Lib.hid hok
 have hlen := hv.len
 obtain ⟨a, cp, rfl, -⟩ := hv.rw.slice
 obtain ⟨i0, hi, hz0, hz1, hz2⟩ := info_parts Tryz.infZint
 obtain ⟨N, hN⟩ : ∃ N, N = rs.length := ⟨_, rfl⟩
 have hN2 : ls.length = N := by omega
 have hN6 : N ≤ 6 := by have := hok.len; omega
 have hmost : mxK ls N = mostT ls := by rw [← hN2]; exact mxK_most ls
 have hmr := mostT_rng hok
 rw [hN2]
 rw [← hN] at HV ⊢
 have HN := Lib.hid hN
 have HN2 := Lib.hid hN2
 have HMO := Lib.hid hmost
 have HMR := Lib.hid hmr
 clear hN hN2 hv hok hlen hmost hmr
 go_enter Tryz.func37, Tryz.ntmps37
 go_wp2_with fail
 go_loop [5, 6] (fun m i => ∃ k : Nat, k ≤ N ∧ i = .int .i64 k ∧ m = .int .i64 (mxK ls k)) (fun _ i => N - (intOf i).toNat)
 case atStart => exact ⟨0, by omega, rfl, rfl⟩
 case round =>
  obtain ⟨k, hk, rfl, rfl⟩ := hrel
  by_cases hlt : k < N
  ·have hdk : (k : Int) < (N : Int) := by omega
   obtain ⟨r, hr⟩ : ∃ r, rs[k]? = some r := ⟨_, List.getElem?_eq_getElem (by rw [← HN.out]; exact hlt)⟩
   obtain ⟨t, ht⟩ : ∃ t, ls[k]? = some t := ⟨_, List.getElem?_eq_getElem (by rw [HN2.out]; exact hlt)⟩
   obtain ⟨b, off, cp', he, hcs⟩ := HV.out.rw.head (by rw [← HN.out]; omega)
   simp only [Value.slice.injEq] at he
   obtain ⟨rfl, -, rfl⟩ := he
   obtain ⟨c0, c1⟩ := rw2 (hcs k r hr) (show lV r = [.int .i64 r.1, .slice r.2.1 r.2.2.1 r.2.2.2] from rfl)
   obtain ⟨-, htr⟩ := HV.out.ok k r t hr ht
   have htok := (HOK.out.rng k t ht).2
   obtain ⟨rc, ra, rn, rcap⟩ := r
   dsimp only at c0 c1 htr
   have TL := Lib.hid (lastR_any ra rn rcap t.2 w (by have := htok.len; omega) htr)
   have hmx : mxK ls (k + 1) = max (mxK ls k) (lastT t.2) := by show max _ _ = _; rw [ht]; rfl
   obtain ⟨L, hL⟩ : ∃ l, l = lastT t.2 := ⟨_, rfl⟩
   obtain ⟨m, hm⟩ : ∃ m, m = mxK ls k := ⟨_, rfl⟩
   rw [← hL] at TL hmx
   rw [← hm] at hmx ⊢
   have HMX := Lib.hid hmx
   clear hcs hr ht htr htok hL hm hmx hlt
   go_wp2_with fail
   refine TL.out.mono ?_
   rintro e w' ⟨rfl, rfl⟩
   clear c0 c1
   go_wp2
   go_round
   case rel => exact ⟨k + 1, by omega, by go_num, by rw [HMX.out]⟩
   case measure => simp [intOf]; omega
  ·obtain rfl : k = N := by omega
   have hdk : ¬ (k : Int) < (k : Int) := by omega
   rw [HMO.out]
   obtain ⟨M, hM⟩ : ∃ m, m = mostT ls := ⟨_, rfl⟩
   rw [← hM] at HMR ⊢
   have HM := Lib.hid hM
   clear hM
   go_wp2_with fail
   go_loopw [7, 8] (fun u i wr => ∃ j : Nat, j ≤ k ∧ i = .int .i64 j ∧ wr.ownsRow w.heap.size 3 1 u (behK ls lim j).length ((behK ls lim j).map (Value.int .i64)) ∧ Below w.heap.size w wr) (fun _ i _ => k - (intOf i).toNat)
   case atStart => exact ⟨0, by omega, rfl, World.ownsRow_nil _ _ _ _, Below.refl _ _⟩
   case round =>
    obtain ⟨j, hj, rfl, hown, hbel⟩ := hrel
    by_cases hlt : j < k
    ·have hdj : (j : Int) < (k : Int) := by omega
     obtain ⟨r, hr⟩ : ∃ r, rs[j]? = some r := ⟨_, List.getElem?_eq_getElem (by rw [← HN.out]; exact hlt)⟩
     obtain ⟨t, ht⟩ : ∃ t, ls[j]? = some t := ⟨_, List.getElem?_eq_getElem (by rw [HN2.out]; exact hlt)⟩
     have HVW := HV.out.carry hbel
     obtain ⟨b, off, cp', he, hcs⟩ := HVW.rw.head (by rw [← HN.out]; omega)
     simp only [Value.slice.injEq] at he
     obtain ⟨rfl, -, rfl⟩ := he
     obtain ⟨c0, c1⟩ := rw2 (hcs j r hr) (show lV r = [.int .i64 r.1, .slice r.2.1 r.2.2.1 r.2.2.2] from rfl)
     obtain ⟨-, htr⟩ := HVW.ok j r t hr ht
     have htok := (HOK.out.rng j t ht).2
     obtain ⟨rc, ra, rn, rcap⟩ := r
     dsimp only at c0 c1 htr
     have TL := Lib.hid (lastR_any ra rn rcap t.2 wr (by have := htok.len; omega) htr)
     have hlr := lastT_rng htok
     have hbs := behK_succ ls lim j
     rw [ht, Option.getD_some, ← HM.out] at hbs
     obtain ⟨L, hL⟩ : ∃ l, l = lastT t.2 := ⟨_, rfl⟩
     rw [← hL] at TL hlr hbs
     have HBS := Lib.hid hbs
     have hLe := behK_len ls lim j
     obtain ⟨NB, hNB⟩ : ∃ N, N = (behK ls lim j).length := ⟨_, rfl⟩
     rw [← hNB] at hown hLe
     have HNB := Lib.hid hNB
     obtain ⟨oa, oc, rfl⟩ := own_slice hown
     have e1 : IntKind.i64.wrap (M - L) = M - L := IntWalk.i64_in _ (by have := HMR.out; omega)
     clear hbs hr ht hcs htr htok hNB hL hlr
     go_wp2_with fail
     refine TL.out.mono ?_
     rintro e w' ⟨rfl, rfl⟩
     by_cases hp : lim < M - L
     ·have hbs := HBS.out
      rw [if_pos hp] at hbs
      have HBS2 := Lib.hid hbs
      clear hbs HBS
      go_wp2_with (at_builtin; refine wpList_append_own _ rfl _ _ 70 rfl w.heap.size 3 i0 (.int .i64 0) 1 8 Tryz.undZint hi hz0 hz1 hz2 rfl (by decide) (.slice oa NB oc) NB _ rfl (own_below hown (below_new _ _)) ⟨wr.heap.size, 0, none⟩ 1 1 [.int .i64 j] rfl rfl (cell_one_new _ _ _) (by simp [Value.oneCell']) (by unfold maxLen; omega) (by omega) (by have := hbel.size; simp; omega) ?_; intro v7 w8 hown' hgrow _)
      have hbelN : Below w.heap.size w w8 := (bthen hbel (below_new wr (.cells #[.int .i64 j] 3))).trans (below_grow (own_below hown (below_new _ _)) (by have := hbel.size; simp; omega) hgrow)
      have hownN : w8.ownsRow w.heap.size 3 1 v7 (behK ls lim (j + 1)).length ((behK ls lim (j + 1)).map (Value.int .i64)) := by
       rw [HBS2.out, List.length_append, List.map_append, ← HNB.out]
       exact hown'
      clear hown hown' hgrow hbel c0 c1 HVW
      go_wp2
      go_roundw
      case rel => exact ⟨j + 1, by omega, by go_num, hownN, hbelN⟩
      case measure => simp [intOf]; omega
     ·have hbs := HBS.out
      rw [if_neg hp, List.append_nil] at hbs
      have HBS2 := Lib.hid hbs
      clear hbs HBS
      go_wp2
      go_roundw
      case rel => exact ⟨j + 1, by omega, by go_num, by rw [HBS2.out, ← HNB.out]; exact hown, hbel⟩
      case measure => simp [intOf]; omega
    ·have hjk : j = k := by omega
     have e6 : ¬ (j : Int) < (k : Int) := by omega
     rw [hjk] at hown
     have hout := Ints.of_own hown rfl
     clear hjk hown
     go_wp2
     go_ret
     exact ⟨⟨_, rfl, hout⟩, hbel⟩
set_option maxRecDepth 100000 in
set_option maxHeartbeats 4000000 in
theorem CheckLogsR_any (v : Value) (rs : List LgV) (ls : List Lg) (w : World) (hl : ls.length ≤ 1000) (hlt : ∀ t ∈ ls, t.2.length ≤ 1000000) (hv : Lgs w v rs ls) :
 Calls Tryz.prog 36 #[v] w fun r w' => r = .returned (.int .i64 (logsE ls)) ∧ Below w.heap.size w w' := by
 have HV := Lib.hid hv
 have HLT := Lib.hid hlt
 have hlen := hv.len
 obtain ⟨a, cp, rfl, -⟩ := hv.rw.slice
 obtain ⟨N, hN⟩ : ∃ N, N = rs.length := ⟨_, rfl⟩
 have hN2 : ls.length = N := by omega
 rw [← hN] at HV ⊢
 have HN := Lib.hid hN
 have HN2 := Lib.hid hN2
 by_cases hbig : 6 < N
 ·have he : logsE ls = 5 := by unfold logsE; rw [if_pos (by omega)]
  have d1 : (6 : Int) < (N : Int) := by omega
  rw [he]
  clear he hN hN2 hbig hv hlt hlen
  go_enter Tryz.func36, Tryz.ntmps36
  go_wp2
  go_ret
  exact ⟨rfl, Below.refl _ _⟩
 ·have he : logsE ls = eachE (logsG ls) ls := by unfold logsE; rw [if_neg (by omega)]
  have d1 : ¬ (6 : Int) < (N : Int) := by omega
  rw [he]
  have HS := Lib.hid (fun (k : Nat) (x : Lg) (hx : ls[k]? = some x) (h : firstE ((ls.mapIdx (logsG ls)).take k) = 0) => eachE_step hx h)
  have HT := Lib.hid (fun (k : Nat) (x : Lg) (hx : ls[k]? = some x) (h : firstE ((ls.mapIdx (logsG ls)).take k) = 0) (hne : logsG ls k x ≠ 0) => eachE_stop hx h hne)
  have HE := Lib.hid (fun (h : firstE ((ls.mapIdx (logsG ls)).take ls.length) = 0) => eachE_end h)
  obtain ⟨E, hE⟩ : ∃ e, e = eachE (logsG ls) ls := ⟨_, rfl⟩
  rw [← hE] at HT HE ⊢
  clear he hN hN2 hbig hv hlt hlen hE
  go_enter Tryz.func36, Tryz.ntmps36
  go_wp2_with fail
  go_loopw [3] (fun i wr => ∃ k : Nat, k ≤ N ∧ i = .int .i64 k ∧ firstE ((ls.mapIdx (logsG ls)).take k) = 0 ∧ Below w.heap.size w wr) (fun i _ => N - (intOf i).toNat)
  case atStart => exact ⟨0, by omega, rfl, rfl, Below.refl _ _⟩
  case round =>
   obtain ⟨k, hk, rfl, hf, hbel⟩ := hrel
   have HF := Lib.hid hf
   clear hf
   by_cases hlt : k < N
   ·have hdk : (k : Int) < (N : Int) := by omega
    obtain ⟨r, hr⟩ : ∃ r, rs[k]? = some r := ⟨_, List.getElem?_eq_getElem (by rw [← HN.out]; exact hlt)⟩
    obtain ⟨t, ht⟩ : ∃ t, ls[k]? = some t := ⟨_, List.getElem?_eq_getElem (by rw [HN2.out]; exact hlt)⟩
    have HVW := HV.out.carry hbel
    obtain ⟨b, off, cp', he, hcs⟩ := HVW.rw.head (by rw [← HN.out]; omega)
    simp only [Value.slice.injEq] at he
    obtain ⟨rfl, -, rfl⟩ := he
    obtain ⟨c0, c1⟩ := rw2 (hcs k r hr) (show lV r = [.int .i64 r.1, .slice r.2.1 r.2.2.1 r.2.2.2] from rfl)
    obtain ⟨hr1, htr⟩ := HVW.ok k r t hr ht
    have hs := HS.out k t ht HF.out
    have hst := HT.out k t ht HF.out
    rw [logsG_zero] at hs hst
    have T0 := Lib.hid (CheckLogR_any r.1 r.2.1 r.2.2.1 r.2.2.2 t.2 wr (HLT.out t (List.mem_of_getElem? ht)) htr)
    rw [hr1] at T0
    have hany : ∀ m, ((ls.take m).any fun o => o.1 == t.1) = ((rs.take m).any fun o => o.1 == t.1) := fun m => (HVW.any m t.1).symm
    rw [hany k] at hs hst
    obtain ⟨rc, ra, rn, rcap⟩ := r
    obtain ⟨tc, tt⟩ := t
    dsimp only at c0 c1 htr hr1 T0 hs hst
    subst hr1
    obtain ⟨e0, he0⟩ : ∃ e, e = logE rc tt := ⟨_, rfl⟩
    rw [← he0] at T0 hs hst
    have HS1 := Lib.hid hs
    have HT1 := Lib.hid hst
    have HCS := Lib.hid hcs
    have D0 := Lib.hid c0
    clear hs hst hany he0 hcs hr ht htr
    go_wp2_with fail
    refine T0.out.mono ?_
    rintro e w2 ⟨rfl, hl⟩
    replace hbel := bthen hbel hl
    clear c0 c1 HVW T0
    by_cases h0 : e0 = 0
    ·subst h0
     have hs0 := HS1.out
     rw [if_pos rfl] at hs0
     have ht0 := HT1.out
     rw [if_pos rfl] at ht0
     have HS3 := Lib.hid hs0
     have HT3 := Lib.hid ht0
     clear hs0 ht0 HS1 HT1
     have HB9 := Lib.hid hbel
     have HL9 := Lib.hid hl
     clear hl hbel
     go_wp2_with fail
     obtain ⟨W5, hW5⟩ : ∃ W5, W5 = w2 := ⟨_, rfl⟩
     subst hW5
     go_loopw [5] (fun i wx => ∃ m : Nat, m ≤ k ∧ i = .int .i64 m ∧ ((rs.take m).any fun o => o.1 == rc) = false ∧ Below W5.heap.size W5 wx) (fun i _ => k - (intOf i).toNat)
     case atStart => exact ⟨0, by omega, rfl, rfl, Below.refl _ _⟩
     case round =>
      obtain ⟨m, hm, rfl, ha, hb5⟩ := hrel
      have HA := Lib.hid ha
      clear ha
      by_cases hmk : m < k
      ·have hdm : (m : Int) < (k : Int) := by omega
       have hdm2 : (m : Int) < (N : Int) := by omega
       have g1 : (0 : Int) ≤ (m : Int) := by omega
       have g2 : (0 : Int) ≤ (k : Int) := by omega
       obtain ⟨x, hx⟩ : ∃ x, rs[m]? = some x := ⟨_, List.getElem?_eq_getElem (by rw [← HN.out]; omega)⟩
       obtain ⟨p0, -⟩ := rw2 (HCS.out m x hx) (show lV x = [.int .i64 x.1, .slice x.2.1 x.2.2.1 x.2.2.2] from rfl)
       have p0 := cellb (cellb p0 HL9.out) hb5
       have d0 := cellb (cellb D0.out HL9.out) hb5
       have hta : ((rs.take (m + 1)).any fun o => o.1 == rc) = (x.1 == rc) := by rw [List.take_add_one, hx, List.any_append, HA.out]; simp
       have hin : x.1 = rc → ((rs.take k).any fun o => o.1 == rc) = true := fun h => by
        rw [List.any_eq_true]
        exact ⟨x, List.mem_of_getElem? (i := m) (by rw [List.getElem?_take]; simp [hmk, hx]), by simp [h]⟩
       obtain ⟨x0, xr⟩ := x
       dsimp only at p0 hta hin
       by_cases hx0 : x0 = rc
       ·have z : (x0 == rc) = true := by rw [beq_iff_eq]; exact hx0
        have hE9 : E = 9 := by
         have h := HT3.out (by rw [if_pos (hin hx0)]; decide)
         rw [if_pos (hin hx0)] at h
         exact h
        have HE9 := Lib.hid hE9
        clear hta hin hx hx0 hE9
        go_upto_region 12 with fail
        refine wp_region_held_drew (S := (fun w' => w'.cell? ⟨b, off + m * 2, none⟩ = some (.int .i64 x0) ∧ w'.cell? ⟨b, off + k * 2, none⟩ = some (.int .i64 rc))) (by kernel_rfl) ?_ (fun hHeld0 => ?_)
        ·(try dsimp only); go_keep
        refine wpAnyH_take (i := 0) (oi := { dst := some 28, op := Op.move (Operand.tmp 0), type := 68, pos := "ref.go:117", after := #[], guard := none }) (v := ?_) rfl (by kernel_rfl) (by kernel_rfl) (by kernel_rfl) (fun _ _ _ h => h) (Or.inl ⟨by rfl, ?_⟩) (by assumption) ?_
        rotate_left
        ·(intro w hSw; (try dsimp only at hSw); go_simp); (try with_reducible rfl)
        try simp only [Act.put, zS]
        refine wpAnyH_take (i := 1) (oi := { dst := some 29, op := Op.move (Operand.tmp 5), type := 3, pos := "ref.go:117", after := #[], guard := none }) (v := ?_) rfl (by kernel_rfl) (by kernel_rfl) (by kernel_rfl) (fun _ _ _ h => h) (Or.inl ⟨by rfl, ?_⟩) (by assumption) ?_
        rotate_left
        ·(intro w hSw; (try dsimp only at hSw); go_simp); (try with_reducible rfl)
        try simp only [Act.put, zS]
        refine wpAnyH_take (i := 2) (oi := { dst := some 30, op := Op.indexAddr 68 (Operand.tmp 28) (Operand.tmp 29), type := 0, pos := "ref.go:117", after := #[{ on := 0, ground := Ground.data }, { on := 1, ground := Ground.data }], guard := none }) (v := ?_) rfl (by kernel_rfl) (by kernel_rfl) (by kernel_rfl) (fun _ _ _ h => h) (Or.inl ⟨by rfl, ?_⟩) (by assumption) ?_
        rotate_left
        ·(intro w hSw; (try dsimp only at hSw); go_simp); (try with_reducible rfl)
        try simp only [Act.put, zS]
        refine wpAnyH_take (i := 3) (oi := { dst := some 31, op := Op.fieldAddr 24 (Operand.tmp 30) 0, type := 0, pos := "ref.go:117", after := #[{ on := 2, ground := Ground.data }], guard := none }) (v := ?_) rfl (by kernel_rfl) (by kernel_rfl) (by kernel_rfl) (fun _ _ _ h => h) (Or.inl ⟨by rfl, ?_⟩) (by assumption) ?_
        rotate_left
        ·(intro w hSw; (try dsimp only at hSw); go_simp); (try with_reducible rfl)
        try simp only [Act.put, zS]
        refine wpAnyH_take (i := 4) (oi := { dst := some 32, op := Op.load 3 (Operand.tmp 31), type := 3, pos := "ref.go:117", after := #[{ on := 3, ground := Ground.data }], guard := none }) (v := ?_) rfl (by kernel_rfl) (by kernel_rfl) (by kernel_rfl) (fun _ _ _ h => h) (Or.inl ⟨by rfl, ?_⟩) (by assumption) ?_
        rotate_left
        ·(intro w hSw; (try dsimp only at hSw); go_simp); (try with_reducible rfl)
        try simp only [Act.put, zS]
        refine wpAnyH_take (i := 5) (oi := { dst := some 33, op := Op.move (Operand.tmp 0), type := 68, pos := "ref.go:117", after := #[], guard := none }) (v := ?_) rfl (by kernel_rfl) (by kernel_rfl) (by kernel_rfl) (fun _ _ _ h => h) (Or.inl ⟨by rfl, ?_⟩) (by assumption) ?_
        rotate_left
        ·(intro w hSw; (try dsimp only at hSw); go_simp); (try with_reducible rfl)
        try simp only [Act.put, zS]
        refine wpAnyH_take (i := 6) (oi := { dst := some 34, op := Op.move (Operand.tmp 3), type := 3, pos := "ref.go:117", after := #[], guard := none }) (v := ?_) rfl (by kernel_rfl) (by kernel_rfl) (by kernel_rfl) (fun _ _ _ h => h) (Or.inl ⟨by rfl, ?_⟩) (by assumption) ?_
        rotate_left
        ·(intro w hSw; (try dsimp only at hSw); go_simp); (try with_reducible rfl)
        try simp only [Act.put, zS]
        refine wpAnyH_take (i := 7) (oi := { dst := some 35, op := Op.indexAddr 68 (Operand.tmp 33) (Operand.tmp 34), type := 0, pos := "ref.go:117", after := #[{ on := 5, ground := Ground.data }, { on := 6, ground := Ground.data }], guard := none }) (v := ?_) rfl (by kernel_rfl) (by kernel_rfl) (by kernel_rfl) (fun _ _ _ h => h) (Or.inl ⟨by rfl, ?_⟩) (by assumption) ?_
        rotate_left
        ·(intro w hSw; (try dsimp only at hSw); go_simp); (try with_reducible rfl)
        try simp only [Act.put, zS]
        refine wpAnyH_take (i := 8) (oi := { dst := some 36, op := Op.fieldAddr 24 (Operand.tmp 35) 0, type := 0, pos := "ref.go:117", after := #[{ on := 7, ground := Ground.data }], guard := none }) (v := ?_) rfl (by kernel_rfl) (by kernel_rfl) (by kernel_rfl) (fun _ _ _ h => h) (Or.inl ⟨by rfl, ?_⟩) (by assumption) ?_
        rotate_left
        ·(intro w hSw; (try dsimp only at hSw); go_simp); (try with_reducible rfl)
        try simp only [Act.put, zS]
        refine wpAnyH_take (i := 9) (oi := { dst := some 37, op := Op.load 3 (Operand.tmp 36), type := 3, pos := "ref.go:117", after := #[{ on := 8, ground := Ground.data }], guard := none }) (v := ?_) rfl (by kernel_rfl) (by kernel_rfl) (by kernel_rfl) (fun _ _ _ h => h) (Or.inl ⟨by rfl, ?_⟩) (by assumption) ?_
        rotate_left
        ·(intro w hSw; (try dsimp only at hSw); go_simp); (try with_reducible rfl)
        try simp only [Act.put, zS]
        refine wpAnyH_take (i := 10) (oi := { dst := some 38, op := Op.binOp BinOp.eql 3 (Operand.tmp 32) (Operand.tmp 37) 3, type := 4, pos := "ref.go:117", after := #[{ on := 4, ground := Ground.data }, { on := 9, ground := Ground.data }], guard := none }) (v := ?_) rfl (by kernel_rfl) (by kernel_rfl) (by kernel_rfl) (fun _ _ _ h => h) (Or.inl ⟨by rfl, ?_⟩) (by assumption) ?_
        rotate_left
        ·(intro w hSw; (try dsimp only at hSw); go_simp); (try with_reducible rfl)
        try simp only [Act.put, zS]
        refine wpAnyH_done (by kernel_rfl) ?_ _
        clear hHeld0
        go_wp2
        go_ret
        exact ⟨by rw [HE9.out]; rfl, bthen HB9.out hb5.drew⟩
       ·have z : (x0 == rc) = false := by rw [beq_eq_false_iff_ne]; exact hx0
        rw [z] at hta
        have HTA := Lib.hid hta
        clear hta hin hx hx0
        go_upto_region 12 with fail
        refine wp_region_held_drew (S := (fun w' => w'.cell? ⟨b, off + m * 2, none⟩ = some (.int .i64 x0) ∧ w'.cell? ⟨b, off + k * 2, none⟩ = some (.int .i64 rc))) (by kernel_rfl) ?_ (fun hHeld0 => ?_)
        ·(try dsimp only); go_keep
        refine wpAnyH_take (i := 0) (oi := { dst := some 28, op := Op.move (Operand.tmp 0), type := 68, pos := "ref.go:117", after := #[], guard := none }) (v := ?_) rfl (by kernel_rfl) (by kernel_rfl) (by kernel_rfl) (fun _ _ _ h => h) (Or.inl ⟨by rfl, ?_⟩) (by assumption) ?_
        rotate_left
        ·(intro w hSw; (try dsimp only at hSw); go_simp); (try with_reducible rfl)
        try simp only [Act.put, zS]
        refine wpAnyH_take (i := 1) (oi := { dst := some 29, op := Op.move (Operand.tmp 5), type := 3, pos := "ref.go:117", after := #[], guard := none }) (v := ?_) rfl (by kernel_rfl) (by kernel_rfl) (by kernel_rfl) (fun _ _ _ h => h) (Or.inl ⟨by rfl, ?_⟩) (by assumption) ?_
        rotate_left
        ·(intro w hSw; (try dsimp only at hSw); go_simp); (try with_reducible rfl)
        try simp only [Act.put, zS]
        refine wpAnyH_take (i := 2) (oi := { dst := some 30, op := Op.indexAddr 68 (Operand.tmp 28) (Operand.tmp 29), type := 0, pos := "ref.go:117", after := #[{ on := 0, ground := Ground.data }, { on := 1, ground := Ground.data }], guard := none }) (v := ?_) rfl (by kernel_rfl) (by kernel_rfl) (by kernel_rfl) (fun _ _ _ h => h) (Or.inl ⟨by rfl, ?_⟩) (by assumption) ?_
        rotate_left
        ·(intro w hSw; (try dsimp only at hSw); go_simp); (try with_reducible rfl)
        try simp only [Act.put, zS]
        refine wpAnyH_take (i := 3) (oi := { dst := some 31, op := Op.fieldAddr 24 (Operand.tmp 30) 0, type := 0, pos := "ref.go:117", after := #[{ on := 2, ground := Ground.data }], guard := none }) (v := ?_) rfl (by kernel_rfl) (by kernel_rfl) (by kernel_rfl) (fun _ _ _ h => h) (Or.inl ⟨by rfl, ?_⟩) (by assumption) ?_
        rotate_left
        ·(intro w hSw; (try dsimp only at hSw); go_simp); (try with_reducible rfl)
        try simp only [Act.put, zS]
        refine wpAnyH_take (i := 4) (oi := { dst := some 32, op := Op.load 3 (Operand.tmp 31), type := 3, pos := "ref.go:117", after := #[{ on := 3, ground := Ground.data }], guard := none }) (v := ?_) rfl (by kernel_rfl) (by kernel_rfl) (by kernel_rfl) (fun _ _ _ h => h) (Or.inl ⟨by rfl, ?_⟩) (by assumption) ?_
        rotate_left
        ·(intro w hSw; (try dsimp only at hSw); go_simp); (try with_reducible rfl)
        try simp only [Act.put, zS]
        refine wpAnyH_take (i := 5) (oi := { dst := some 33, op := Op.move (Operand.tmp 0), type := 68, pos := "ref.go:117", after := #[], guard := none }) (v := ?_) rfl (by kernel_rfl) (by kernel_rfl) (by kernel_rfl) (fun _ _ _ h => h) (Or.inl ⟨by rfl, ?_⟩) (by assumption) ?_
        rotate_left
        ·(intro w hSw; (try dsimp only at hSw); go_simp); (try with_reducible rfl)
        try simp only [Act.put, zS]
        refine wpAnyH_take (i := 6) (oi := { dst := some 34, op := Op.move (Operand.tmp 3), type := 3, pos := "ref.go:117", after := #[], guard := none }) (v := ?_) rfl (by kernel_rfl) (by kernel_rfl) (by kernel_rfl) (fun _ _ _ h => h) (Or.inl ⟨by rfl, ?_⟩) (by assumption) ?_
        rotate_left
        ·(intro w hSw; (try dsimp only at hSw); go_simp); (try with_reducible rfl)
        try simp only [Act.put, zS]
        refine wpAnyH_take (i := 7) (oi := { dst := some 35, op := Op.indexAddr 68 (Operand.tmp 33) (Operand.tmp 34), type := 0, pos := "ref.go:117", after := #[{ on := 5, ground := Ground.data }, { on := 6, ground := Ground.data }], guard := none }) (v := ?_) rfl (by kernel_rfl) (by kernel_rfl) (by kernel_rfl) (fun _ _ _ h => h) (Or.inl ⟨by rfl, ?_⟩) (by assumption) ?_
        rotate_left
        ·(intro w hSw; (try dsimp only at hSw); go_simp); (try with_reducible rfl)
        try simp only [Act.put, zS]
        refine wpAnyH_take (i := 8) (oi := { dst := some 36, op := Op.fieldAddr 24 (Operand.tmp 35) 0, type := 0, pos := "ref.go:117", after := #[{ on := 7, ground := Ground.data }], guard := none }) (v := ?_) rfl (by kernel_rfl) (by kernel_rfl) (by kernel_rfl) (fun _ _ _ h => h) (Or.inl ⟨by rfl, ?_⟩) (by assumption) ?_
        rotate_left
        ·(intro w hSw; (try dsimp only at hSw); go_simp); (try with_reducible rfl)
        try simp only [Act.put, zS]
        refine wpAnyH_take (i := 9) (oi := { dst := some 37, op := Op.load 3 (Operand.tmp 36), type := 3, pos := "ref.go:117", after := #[{ on := 8, ground := Ground.data }], guard := none }) (v := ?_) rfl (by kernel_rfl) (by kernel_rfl) (by kernel_rfl) (fun _ _ _ h => h) (Or.inl ⟨by rfl, ?_⟩) (by assumption) ?_
        rotate_left
        ·(intro w hSw; (try dsimp only at hSw); go_simp); (try with_reducible rfl)
        try simp only [Act.put, zS]
        refine wpAnyH_take (i := 10) (oi := { dst := some 38, op := Op.binOp BinOp.eql 3 (Operand.tmp 32) (Operand.tmp 37) 3, type := 4, pos := "ref.go:117", after := #[{ on := 4, ground := Ground.data }, { on := 9, ground := Ground.data }], guard := none }) (v := ?_) rfl (by kernel_rfl) (by kernel_rfl) (by kernel_rfl) (fun _ _ _ h => h) (Or.inl ⟨by rfl, ?_⟩) (by assumption) ?_
        rotate_left
        ·(intro w hSw; (try dsimp only at hSw); go_simp); (try with_reducible rfl)
        try simp only [Act.put, zS]
        refine wpAnyH_done (by kernel_rfl) ?_ _
        clear hHeld0
        go_wp2
        go_roundw
        case rel => exact ⟨m + 1, by omega, by go_num, HTA.out, hb5.drew⟩
        case measure => simp [intOf]; omega
      ·obtain rfl : m = k := by omega
       have hdm : ¬ (m : Int) < (m : Int) := by omega
       have hs := HS3.out
       rw [if_neg (by rw [HA.out]; decide)] at hs
       have HS2 := Lib.hid hs
       have hbel := bthen HB9.out hb5
       clear hs hb5
       go_wp2
       go_roundw
       case rel => exact ⟨m + 1, by omega, by go_num, HS2.out, hbel⟩
       case measure => simp [intOf]; omega
    ·have z : (e0 != 0) = true := by rw [bne_iff_ne]; exact h0
     have hE9 : E = e0 := by
      have h := HT1.out (by rw [if_neg h0]; exact h0)
      rw [if_neg h0] at h
      exact h
     have HE9 := Lib.hid hE9
     clear hE9 h0 hl
     go_wp2
     go_ret
     exact ⟨by rw [HE9.out]; rfl, hbel⟩
   ·obtain rfl : k = N := by omega
    have hdk : ¬ (k : Int) < (k : Int) := by omega
    have hz : E = 0 := HE.out (by rw [HN2.out]; exact HF.out)
    subst hz
    go_wp2
    go_ret
    exact ⟨rfl, hbel⟩
/-- whether logs are short. -/
def shortL (ls : List Lg) : Bool := (ls.all fun t => shortB t.2.length) && (decide (ls.length ≤ 5) || decide (ls.length = 7))
set_option maxRecDepth 100000 in
set_option maxHeartbeats 1000000 in
theorem ShortLogs_any (v : Value) (rs : List LgV) (ls : List Lg) (w : World) (hl : ls.length ≤ 9223372036854775807) (hv : Lgs w v rs ls) :
 Calls Tryz.prog 32 #[v] w fun r w' => r = .returned (.bool (shortL ls)) ∧ w = w' := by
 have HV := Lib.hid hv
 have hlen := hv.len
 obtain ⟨a, cp, rfl, -⟩ := hv.rw.slice
 obtain ⟨N, hN⟩ : ∃ N, N = rs.length := ⟨_, rfl⟩
 have hN2 : ls.length = N := by omega
 have hl2 : (N : Int) ≤ 9223372036854775807 := by omega
 have hR : (ls.all fun t => shortB t.2.length) = true → shortL ls = (decide (N ≤ 5) || decide (N = 7)) := fun h => by unfold shortL; rw [h, hN2]; rfl
 have hF : (ls.all fun t => shortB t.2.length) = false → shortL ls = false := fun h => by unfold shortL; rw [h]; rfl
 rw [← hN] at HV ⊢
 have HN := Lib.hid hN
 have HN2 := Lib.hid hN2
 obtain ⟨R, hRR⟩ : ∃ r, r = shortL ls := ⟨_, rfl⟩
 rw [← hRR] at hR hF ⊢
 have HR := Lib.hid hR
 have HF := Lib.hid hF
 clear hN hN2 hv hlen hR hF hRR
 go_enter Tryz.func32, Tryz.ntmps32
 go_wp2_with fail
 go_loop [3] (fun i => ∃ k : Nat, k ≤ N ∧ i = .int .i64 k ∧ ((ls.take k).all fun t => shortB t.2.length) = true) (fun i => N - (intOf i).toNat)
 case atStart => exact ⟨0, by omega, rfl, rfl⟩
 case round =>
  obtain ⟨k, hk, rfl, ha⟩ := hrel
  have HA := Lib.hid ha
  clear ha
  by_cases hlt : k < N
  ·have hdk : (k : Int) < (N : Int) := by omega
   obtain ⟨r, hr⟩ : ∃ r, rs[k]? = some r := ⟨_, List.getElem?_eq_getElem (by rw [← HN.out]; exact hlt)⟩
   obtain ⟨t, ht⟩ : ∃ t, ls[k]? = some t := ⟨_, List.getElem?_eq_getElem (by rw [HN2.out]; exact hlt)⟩
   obtain ⟨b, off, cp', he, hcs⟩ := HV.out.rw.head (by rw [← HN.out]; omega)
   simp only [Value.slice.injEq] at he
   obtain ⟨rfl, -, rfl⟩ := he
   obtain ⟨c0, c1⟩ := rw2 (hcs k r hr) (show lV r = [.int .i64 r.1, .slice r.2.1 r.2.2.1 r.2.2.2] from rfl)
   obtain ⟨-, htr⟩ := HV.out.ok k r t hr ht
   have htl := htr.len
   obtain ⟨rc, ra, rn, rcap⟩ := r
   dsimp only at c0 c1 htr htl
   have T1 := Lib.hid (fun W => Short_any ra rn rcap W)
   have hta : ((ls.take (k + 1)).all fun t => shortB t.2.length) = shortB rn := by rw [List.take_add_one, ht, List.all_append, HA.out]; simp [htl]
   have hfa : shortB rn = false → (ls.all fun t => shortB t.2.length) = false := fun h => by
    rw [List.all_eq_false]
    exact ⟨t, List.mem_of_getElem? ht, by rw [← htl, h]; decide⟩
   obtain ⟨B, hB⟩ : ∃ b, b = shortB rn := ⟨_, rfl⟩
   rw [← hB] at T1 hta hfa
   have HTA := Lib.hid hta
   have HFA := Lib.hid hfa
   clear hta hfa hB hcs hr ht htr htl
   go_wp2_with fail
   refine (T1.out w).mono ?_
   rintro e w' ⟨rfl, rfl⟩
   clear c0 c1
   cases B with
   | true =>
     go_wp2
     go_round
     case rel => exact ⟨k + 1, by omega, by go_num, HTA.out⟩
     case measure => simp [intOf]; omega
   | false =>
     have hz : R = false := HF.out (HFA.out rfl)
     have HZ := Lib.hid hz
     clear hz
     go_wp2
     go_ret
     exact ⟨by rw [HZ.out]; rfl, rfl⟩
  ·obtain rfl : k = N := by omega
   have hdk : ¬ (k : Int) < (k : Int) := by omega
   have hz := HR.out (by have h := HA.out; rw [List.take_of_length_le (by rw [HN2.out]; exact Nat.le_refl _)] at h; exact h)
   have HZ := Lib.hid hz
   clear hz
   by_cases h5 : k ≤ 5
   ·have f5 : (k : Int) ≤ 5 := by omega
    have hq : (decide (k ≤ 5) || decide (k = 7)) = true := by simp [h5]
    have HQ := Lib.hid hq
    clear hq h5
    go_wp2
    go_ret
    exact ⟨by rw [HZ.out, HQ.out]; rfl, rfl⟩
   ·have f5 : ¬ (k : Int) ≤ 5 := by omega
    have hq : (decide (k ≤ 5) || decide (k = 7)) = ((k : Int) == 7) := by
     rw [Bool.eq_iff_iff]; simp; omega
    have HQ := Lib.hid hq
    clear hq h5
    go_wp2
    go_ret
    exact ⟨by rw [HZ.out, HQ.out]; rfl, rfl⟩
end
section
set_option linter.unusedSimpArgs false
set_option linter.unusedVariables false
open Go.RowKit
theorem votF_succ {ls : List Lg} (h : LgOk ls) {k : Nat} {t : Lg} (ht : ls[k]? = some t) (x : Int) : votL x (flatL ls (k + 1)) = votL x (flatL ls k) ++ (if atB t.2 x = true then [atD t.2 x] else []) := by
 rw [flatL_succ ls k t ht, votL_append, votL_at (h.rng k t ht).2]
theorem votF_len {ls : List Lg} (h : LgOk ls) (x : Int) : ∀ k, (votL x (flatL ls k)).length ≤ k
 | 0 => by simp [flatL, votL]
 | k + 1 => by
   have ih := votF_len h x k
   by_cases hk : k < ls.length
   ·rw [votF_succ h (List.getElem?_eq_getElem hk), List.length_append]
    split <;> simp <;> omega
   ·have e : flatL ls (k + 1) = flatL ls k := by unfold flatL; rw [List.take_of_length_le (by omega), List.take_of_length_le (by omega)]
    rw [e]; omega
theorem votF_rng {ls : List Lg} (h : LgOk ls) (x : Int) (k : Nat) : ∀ y ∈ votL x (flatL ls k), 0 ≤ y ∧ y ≤ 4095 := fun y hy => by
 obtain ⟨p, hp, -, e⟩ := mem_votL hy
 have := (flatL_rg h hp).2
 omega
set_option maxRecDepth 100000 in
set_option maxHeartbeats 8000000 in
theorem VotedR_any (v : Value) (rs : List LgV) (ls : List Lg) (t : Int) (w : World) (hok : LgOk ls) (hv : Lgs w v rs ls) :
 Calls Tryz.prog 92 #[v, .int .i64 t] w fun r w' => r = .returned (.tuple #[.int .i64 (majK (votL t (flatL ls ls.length)) 12), .bool (decide (ls.length < 2 * (votL t (flatL ls ls.length)).length))]) ∧ Below w.heap.size w w' := by
 have HV := Lib.hid hv
 have HOK := Lib.hid hok
 have hlen := hv.len
 obtain ⟨a, cp, rfl, -⟩ := hv.rw.slice
 obtain ⟨i0, hi, hz0, hz1, hz2⟩ := info_parts Tryz.infZint
 obtain ⟨N, hN⟩ : ∃ N, N = rs.length := ⟨_, rfl⟩
 have hN2 : ls.length = N := by omega
 have hN6 : N ≤ 6 := by have := hok.len; omega
 rw [hN2]
 rw [← hN] at HV ⊢
 have HN := Lib.hid hN
 have HN2 := Lib.hid hN2
 have hM := votF_len hok t N
 have HR := Lib.hid (votF_rng hok t N)
 have HS := Lib.hid (fun (k : Nat) (g : Lg) (hg : ls[k]? = some g) => votF_succ hok hg t)
 have HL := Lib.hid (votF_len hok t)
 obtain ⟨L, hL⟩ : ∃ l, l = votL t (flatL ls N) := ⟨_, rfl⟩
 rw [← hL] at hM HR ⊢
 have HLL := Lib.hid hL
 have HM := Lib.hid hM
 clear hN hN2 hv hok hlen hL hM
 go_enter Tryz.func92, Tryz.ntmps92
 go_wp2_with fail
 go_loopw [6, 7] (fun u i wr => ∃ k : Nat, k ≤ N ∧ i = .int .i64 k ∧ wr.ownsRow w.heap.size 3 1 u (votL t (flatL ls k)).length ((votL t (flatL ls k)).map (Value.int .i64)) ∧ Below w.heap.size w wr) (fun _ i _ => N - (intOf i).toNat)
 case atStart => exact ⟨0, by omega, rfl, World.ownsRow_nil _ _ _ _, Below.refl _ _⟩
 case round =>
  obtain ⟨k, hk, rfl, hown, hbel⟩ := hrel
  by_cases hlt : k < N
  ·have hdk : (k : Int) < (N : Int) := by omega
   obtain ⟨r, hr⟩ : ∃ r, rs[k]? = some r := ⟨_, List.getElem?_eq_getElem (by rw [← HN.out]; exact hlt)⟩
   obtain ⟨g, hg⟩ : ∃ g, ls[k]? = some g := ⟨_, List.getElem?_eq_getElem (by rw [HN2.out]; exact hlt)⟩
   have HVW := HV.out.carry hbel
   obtain ⟨b, off, cp', he, hcs⟩ := HVW.rw.head (by rw [← HN.out]; omega)
   simp only [Value.slice.injEq] at he
   obtain ⟨rfl, -, rfl⟩ := he
   obtain ⟨c0, c1⟩ := rw2 (hcs k r hr) (show lV r = [.int .i64 r.1, .slice r.2.1 r.2.2.1 r.2.2.2] from rfl)
   obtain ⟨-, htr⟩ := HVW.ok k r g hr hg
   have htok := (HOK.out.rng k g hg).2
   obtain ⟨rc, ra, rn, rcap⟩ := r
   dsimp only at c0 c1 htr
   have TA := Lib.hid (AtR_any (.slice ra rn rcap) g.2 t wr (by have := htok.len; omega) htr)
   have hbs := HS.out k g hg
   obtain ⟨D, hD⟩ : ∃ l, l = atD g.2 t := ⟨_, rfl⟩
   obtain ⟨B, hB⟩ : ∃ l, l = atB g.2 t := ⟨_, rfl⟩
   rw [← hD, ← hB] at TA hbs
   have HBS := Lib.hid hbs
   have hLe := HL.out k
   obtain ⟨NB, hNB⟩ : ∃ N, N = (votL t (flatL ls k)).length := ⟨_, rfl⟩
   rw [← hNB] at hown hLe
   have HNB := Lib.hid hNB
   obtain ⟨oa, oc, rfl⟩ := own_slice hown
   clear hbs hr hg hcs htr htok hNB hD hB HVW
   go_wp2_with fail
   refine TA.out.mono ?_
   rintro e w' ⟨rfl, rfl⟩
   clear c0 c1 TA
   cases B with
   | true =>
     have HBS2 := Lib.hid (HBS.out.trans (by rw [if_pos rfl]))
     clear HBS
     go_wp2_with (at_builtin; refine wpList_append_own _ rfl _ _ 70 rfl w.heap.size 3 i0 (.int .i64 0) 1 8 Tryz.undZint hi hz0 hz1 hz2 rfl (by decide) (.slice oa NB oc) NB _ rfl (own_below hown (below_new _ _)) ⟨wr.heap.size, 0, none⟩ 1 1 [.int .i64 D] rfl rfl (cell_one_new _ _ _) (by simp [Value.oneCell']) (by unfold maxLen; omega) (by omega) (by have := hbel.size; simp; omega) ?_; intro v7 w8 hown' hgrow _)
     have hbelN : Below w.heap.size w w8 := (bthen hbel (below_new wr (.cells #[.int .i64 D] 3))).trans (below_grow (own_below hown (below_new _ _)) (by have := hbel.size; simp; omega) hgrow)
     have hownN : w8.ownsRow w.heap.size 3 1 v7 (votL t (flatL ls (k + 1))).length ((votL t (flatL ls (k + 1))).map (Value.int .i64)) := by
      rw [HBS2.out, List.length_append, List.map_append, ← HNB.out]
      exact hown'
     clear hown hown' hgrow hbel
     go_wp2
     go_roundw
     case rel => exact ⟨k + 1, by omega, by go_num, hownN, hbelN⟩
     case measure => simp [intOf]; omega
   | false =>
     have HBS2 := Lib.hid (HBS.out.trans (by rw [if_neg (by decide), List.append_nil]))
     clear HBS
     go_wp2
     go_roundw
     case rel => exact ⟨k + 1, by omega, by go_num, by rw [HBS2.out, ← HNB.out]; exact hown, hbel⟩
     case measure => simp [intOf]; omega
  ·have hkN : k = N := by omega
   have e6 : ¬ (k : Int) < (N : Int) := by omega
   rw [hkN, ← HLL.out] at hown
   have hI := Ints.of_own hown rfl
   obtain ⟨M, hM⟩ : ∃ m, m = L.length := ⟨_, rfl⟩
   rw [← hM] at hown HM
   obtain ⟨oa, oc, rfl⟩ := own_slice hown
   have HI := Lib.hid hI
   have HML := Lib.hid hM
   have hM6 : M ≤ 6 := by have := HM.out; omega
   clear hown hI hkN hM HM
   go_wp2_with fail
   go_loop [10, 11, 12] (fun o b i => ∃ n : Nat, n ≤ 12 ∧ i = .int .i64 n ∧ o = .int .i64 (majK L n) ∧ b = .int .i64 (2 ^ n)) (fun _ _ i => 12 - (intOf i).toNat)
   case atStart => exact ⟨0, by omega, rfl, rfl, rfl⟩
   case round =>
    obtain ⟨n, hn, rfl, rfl, rfl⟩ := hrel
    by_cases hn2 : n < 12
    ·have hdn : (n : Int) < 12 := by omega
     have hmr := majK_rng L n
     have hms : majK L (n + 1) = majK L n + (if (L.length : Int) < 2 * yesC n L then 2 ^ n else 0) := rfl
     have hp2 : (2 : Int) ^ (n + 1) = 2 * 2 ^ n := by rw [Int.pow_succ]; omega
     have hpr : (2 : Int) ^ n ≤ 4096 := by
      have h := Nat.pow_le_pow_right (n := 2) (by decide) (show n ≤ 12 by omega)
      have e : (2 : Int) ^ n = ((2 ^ n : Nat) : Int) := by push_cast; rfl
      have e2 : (2 : Nat) ^ 12 = 4096 := rfl
      rw [e]
      omega
     have hyt : yesC n (L.take M) = yesC n L := by rw [HML.out, List.take_length]
     obtain ⟨P, hP⟩ : ∃ p, p = (2 : Int) ^ n := ⟨_, rfl⟩
     obtain ⟨K, hK⟩ : ∃ p, p = majK L n := ⟨_, rfl⟩
     rw [← hP] at hp2 hpr
     rw [← hP, ← hK] at hms hmr ⊢
     rw [← HML.out] at hms
     have HMS := Lib.hid hms
     have HP2 := Lib.hid hp2
     have HYT := Lib.hid hyt
     have HPR := Lib.hid hpr
     have HMR := Lib.hid hmr
     clear hmr hms hp2 hpr hP hK hyt
     go_wp2_with fail
     go_loop [13, 14] (fun y i => ∃ j : Nat, j ≤ M ∧ i = .int .i64 j ∧ y = .int .i64 (yesC n (L.take j))) (fun _ i => M - (intOf i).toNat)
     case atStart => exact ⟨0, by omega, rfl, rfl⟩
     case round =>
      obtain ⟨j, hj, rfl, rfl⟩ := hrel
      by_cases hj2 : j < M
      ·have hdj : (j : Int) < (M : Int) := by omega
       obtain ⟨bb, oo, cc, he, hcs⟩ := HI.out.head (by rw [← HML.out]; omega)
       simp only [Value.slice.injEq] at he
       obtain ⟨rfl, -, rfl⟩ := he
       have c0 := hcs j (by rw [← HML.out]; exact hj2)
       obtain ⟨x, hx⟩ : ∃ x, L[j]? = some x := ⟨_, List.getElem?_eq_getElem (by rw [← HML.out]; exact hj2)⟩
       rw [hx, Option.getD_some] at c0
       have hxr := HR.out x (List.mem_of_getElem? hx)
       have TH := Lib.hid (Has_any x n wr (by omega) (by omega))
       have hys : yesC n (L.take (j + 1)) = yesC n (L.take j) + (if hasR x n = true then 1 else 0) := by
        rw [List.take_add_one, hx, Option.toList_some, yesC_snoc, hasR_bit hxr.1]
        have := bitV_rng x n
        by_cases hb : bitV x n = 1
        ·simp [hb]
        ·have : bitV x n = 0 := by omega
         simp [this]
       have hyr := yesC_rng n (L.take j)
       rw [List.length_take] at hyr
       obtain ⟨Y, hY⟩ : ∃ y, y = yesC n (L.take j) := ⟨_, rfl⟩
       obtain ⟨B, hB⟩ : ∃ y, y = hasR x n := ⟨_, rfl⟩
       rw [← hY] at hys hyr ⊢
       rw [← hB] at hys TH
       have HYS := Lib.hid hys
       have hyr0 : 0 ≤ Y ∧ Y ≤ 100 := by omega
       clear hcs hx hxr hys hyr hY hB
       go_wp2_with fail
       refine TH.out.mono ?_
       rintro e w' ⟨rfl, rfl⟩
       clear c0 TH
       cases B with
       | true =>
         have HY2 := Lib.hid (HYS.out.trans (by rw [if_pos rfl]))
         clear HYS
         go_wp2
         go_round
         case rel => exact ⟨j + 1, by omega, by go_num, by rw [HY2.out]⟩
         case measure => simp [intOf]; omega
       | false =>
         have HY2 := Lib.hid (HYS.out.trans (by rw [if_neg (by decide), Int.add_zero]))
         clear HYS
         go_wp2
         go_round
         case rel => exact ⟨j + 1, by omega, by go_num, by rw [HY2.out]⟩
         case measure => simp [intOf]; omega
      ·have hjM : j = M := by omega
       have e7 : ¬ (j : Int) < (M : Int) := by omega
       rw [hjM, HYT.out]
       have hyr := yesC_rng n L
       rw [← HML.out] at hyr
       obtain ⟨Y, hY⟩ : ∃ y, y = yesC n L := ⟨_, rfl⟩
       rw [← hY] at HMS hyr ⊢
       have hyr0 : 0 ≤ Y ∧ Y ≤ 100 := by omega
       have hpr := HPR.out
       have hmr := HMR.out
       have w1 : IntKind.i64.wrap (2 * Y) = 2 * Y := IntWalk.i64_in _ (by omega)
       have w2 : IntKind.i64.wrap (K + P) = K + P := IntWalk.i64_in _ (by omega)
       have w3 : IntKind.i64.wrap (2 * P) = 2 * P := IntWalk.i64_in _ (by omega)
       clear hjM hY hyr HYT hpr hmr
       by_cases hc : (M : Int) < 2 * Y
       ·have HM2 := Lib.hid (HMS.out.trans (by rw [if_pos hc]))
        clear HMS
        go_wp2
        go_round
        case rel => exact ⟨n + 1, by omega, by go_num, by rw [HM2.out], by rw [HP2.out]⟩
        case measure => simp [intOf]; omega
       ·have HM2 := Lib.hid (HMS.out.trans (by rw [if_neg hc, Int.add_zero]))
        clear HMS
        go_wp2
        go_round
        case rel => exact ⟨n + 1, by omega, by go_num, by rw [HM2.out], by rw [HP2.out]⟩
        case measure => simp [intOf]; omega
    ·obtain rfl : n = 12 := by omega
     obtain ⟨Z, hZ⟩ : ∃ z, z = majK L 12 := ⟨_, rfl⟩
     rw [← hZ]
     have w1 : IntKind.i64.wrap (2 * (M : Int)) = 2 * (M : Int) := IntWalk.i64_in _ (by omega)
     have hq : decide (N < 2 * L.length) = decide ((N : Int) < 2 * (M : Int)) := by
      rw [← HML.out, Bool.eq_iff_iff, decide_eq_true_eq, decide_eq_true_eq]; omega
     have HQ := Lib.hid hq
     have HZ := Lib.hid hZ
     clear hZ hq
     go_wp2
     go_ret2
     exact ⟨by rw [HQ.out, ← HZ.out]; rfl, hbel⟩
end
end Go.Proofs.YtgdkomgfalkihaaGreatDoor

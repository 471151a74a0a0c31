/- A switch from one log to another one at a change-over (plain facts). -/
import Derived.Test.YtgpdalgfbfboaaaGreatDoorVeB
import Derived.Test.YtgpdalgfbfboaaaGreatDoorVcA
import Derived.Test.YtgpdalgfbfboaaaGreatDoorVeE
import Derived.Test.YtgpdalgfbfboaaaGreatDoorVaY
import Derived.Test.YtgpdalgfbfboaaaGreatDoorVbM
namespace Go.Proofs.YtgpdalgfbfboaaaGreatDoor
section
set_option linter.unusedSimpArgs false
set_option linter.unusedVariables false
open Go.RowKit
/-- where a change-over is asked: no tick before the answer would do. -/
theorem over_no {la lb : List P2} (hs : la.Pairwise (fun x y => x.1 < y.1)) {fr : Int} {n : Nat} {p : P2} (hp : p ∈ la) (hf : fr ≤ p.1) (h : ∀ y, overR la lb fr n = some y → p.1 < y.1) : possB la lb p.1 n = false := by
 cases hc : possB la lb p.1 n with
 | false => rfl
 | true =>
   have ho : overP la lb fr n p = true := by unfold overP; rw [hc, decide_eq_true hf]; rfl
   cases hq : overR la lb fr n with
   | none =>
     unfold overR at hq
     rw [List.find?_eq_none] at hq
     exact absurd ho (hq p hp)
   | some y =>
     have h1 := (find_first hs hq).2.2 p hp ho
     have h2 := h y hq
     omega
theorem over_yes {la lb : List P2} (hs : la.Pairwise (fun x y => x.1 < y.1)) {fr : Int} {n : Nat} {y : P2} (h : overR la lb fr n = some y) : y ∈ la ∧ fr ≤ y.1 ∧ possB la lb y.1 n = true := by
 obtain ⟨h1, h2, -⟩ := find_first hs h
 unfold overP at h2
 rw [Bool.and_eq_true, decide_eq_true_eq] at h2
 exact ⟨h1, h2.1, h2.2⟩
theorem filter_two {l : List P2} (hs : l.Pairwise (fun x y => x.1 < y.1)) (t : Int) : (l.filter fun x => decide (x.1 < t)) ++ (l.filter fun x => decide (t ≤ x.1)) = l := by
 obtain ⟨h1, h2⟩ := take_lt hs t
 rw [← h1, ← h2, List.take_append_drop]
/-- within the hold both logs have the same pulses. -/
theorem hold_eq {la lb : List P2} (ha : la.Pairwise (fun x y => x.1 < y.1)) (hb : lb.Pairwise (fun x y => x.1 < y.1)) {t : Int} {n : Nat} (h : possB la lb t n = true) :
 (la.filter fun x => decide (t ≤ x.1 ∧ x.1 < t + n)) = (lb.filter fun x => decide (t ≤ x.1 ∧ x.1 < t + n)) := by
 rw [possB_iff] at h
 refine rise_eq (ha.filter _) (hb.filter _) (fun x => ?_)
 rw [List.mem_filter, List.mem_filter, decide_eq_true_eq]
 have key : t ≤ x.1 ∧ x.1 < t + n → Good la lb x.1 := fun hx => by
  have := h (x.1 - t).toNat (by omega)
  rwa [show t + ((x.1 - t).toNat : Int) = x.1 by omega] at this
 constructor
 ·rintro ⟨h1, h2⟩
  obtain ⟨v, g1, g2⟩ := key h2
  have h3 := atR_mem ha (show (x.1, x.2) ∈ la from h1)
  rw [h3] at g1
  cases g1
  exact ⟨atR_some g2, h2⟩
 ·rintro ⟨h1, h2⟩
  obtain ⟨v, g1, g2⟩ := key h2
  have h3 := atR_mem hb (show (x.1, x.2) ∈ lb from h1)
  rw [h3] at g2
  cases g2
  exact ⟨atR_some g1, h2⟩
theorem swt_sorted {la lb : List P2} (ha : la.Pairwise (fun x y => x.1 < y.1)) (hb : lb.Pairwise (fun x y => x.1 < y.1)) (t : Int) : (swtF la lb t).Pairwise (fun x y => x.1 < y.1) := by
 unfold swtF
 rw [List.pairwise_append]
 refine ⟨ha.filter _, hb.filter _, fun x hx y hy => ?_⟩
 rw [List.mem_filter, decide_eq_true_eq] at hx hy
 omega
theorem swt_mem {la lb : List P2} {t : Int} {x : P2} : x ∈ swtF la lb t ↔ (x ∈ la ∧ x.1 < t) ∨ (x ∈ lb ∧ t ≤ x.1) := by
 unfold swtF
 rw [List.mem_append, List.mem_filter, List.mem_filter, decide_eq_true_eq, decide_eq_true_eq]
theorem trOk_of {l : List P2} (hl : l.length ≤ 256) (hr : ∀ x ∈ l, (0 ≤ x.1 ∧ x.1 ≤ 100000) ∧ (0 ≤ x.2 ∧ x.2 ≤ 4095)) (hs : l.Pairwise (fun x y => x.1 < y.1)) : TrOk l :=
 ⟨hl, fun k x hx => hr x (List.mem_of_getElem? hx), fun k x y hx hy => by
  obtain ⟨h1, rfl⟩ := List.getElem?_eq_some_iff.1 hx
  obtain ⟨h2, rfl⟩ := List.getElem?_eq_some_iff.1 hy
  rw [List.pairwise_iff_getElem] at hs
  exact hs k (k + 1) h1 h2 (by omega)⟩
theorem swt_ok {la lb : List P2} (ha : TrOk la) (hb : TrOk lb) (t : Int) (hl : la.length + lb.length ≤ 256) : TrOk (swtF la lb t) := by
 refine trOk_of ?_ (fun x hx => ?_) (swt_sorted ha.sorted hb.sorted t)
 ·unfold swtF
  rw [List.length_append]
  have h1 := List.length_filter_le (fun x : P2 => decide (x.1 < t)) la
  have h2 := List.length_filter_le (fun x : P2 => decide (t ≤ x.1)) lb
  omega
 ·rcases swt_mem.1 hx with h | h
  ·exact ha.mem h.1
  ·exact hb.mem h.1
/-- up to the end of the hold the switched train is the first one. -/
theorem swt_head {la lb : List P2} (ha : la.Pairwise (fun x y => x.1 < y.1)) (hb : lb.Pairwise (fun x y => x.1 < y.1)) {t : Int} {n : Nat} (h : possB la lb t n = true) :
 ((swtF la lb t).filter fun x => decide (x.1 < t + n)) = (la.filter fun x => decide (x.1 < t + n)) := by
 have he := hold_eq ha hb h
 refine rise_eq ((swt_sorted ha hb t).filter _) (ha.filter _) (fun x => ?_)
 rw [List.mem_filter, List.mem_filter, decide_eq_true_eq, swt_mem]
 have key : (x ∈ la ∧ (t ≤ x.1 ∧ x.1 < t + n)) ↔ (x ∈ lb ∧ (t ≤ x.1 ∧ x.1 < t + n)) := by
  have h1 : x ∈ (la.filter fun x => decide (t ≤ x.1 ∧ x.1 < t + n)) ↔ x ∈ (lb.filter fun x => decide (t ≤ x.1 ∧ x.1 < t + n)) := by rw [he]
  rw [List.mem_filter, List.mem_filter, decide_eq_true_eq] at h1
  exact h1
 constructor
 ·rintro ⟨h1 | h1, h2⟩
  ·exact ⟨h1.1, h2⟩
  ·exact ⟨(key.2 ⟨h1.1, h1.2, h2⟩).1, h2⟩
 ·rintro ⟨h1, h2⟩
  by_cases hx : x.1 < t
  ·exact ⟨.inl ⟨h1, hx⟩, h2⟩
  ·exact ⟨.inr ⟨(key.1 ⟨h1, by omega, h2⟩).1, by omega⟩, h2⟩
theorem swt_at {la lb : List P2} (ha : la.Pairwise (fun x y => x.1 < y.1)) (hb : lb.Pairwise (fun x y => x.1 < y.1)) {t : Int} {n : Nat} (h : possB la lb t n = true) {p : P2} (hp : p ∈ la) (hlt : p.1 < t + n) : atR (swtF la lb t) p.1 = some p.2 := by
 have he := swt_head ha hb h
 have h1 : p ∈ ((swtF la lb t).filter fun x => decide (x.1 < t + n)) := by
  rw [he, List.mem_filter, decide_eq_true_eq]; exact ⟨hp, hlt⟩
 exact atR_mem (swt_sorted ha hb t) (show (p.1, p.2) ∈ _ from (List.mem_filter.1 h1).1)
theorem mem_bumpsL {l : List P2} {lim n : Int} : n ∈ bumpsL l lim ↔ ∃ i, i + 1 < l.length ∧ lim < popC (chgV l i) ∧ (l[i + 1]?.getD (0, 0)).1 = n := by
 unfold bumpsL bumpK
 rw [List.mem_map]
 constructor
 ·rintro ⟨i, hi, rfl⟩
  rw [List.mem_filter, List.mem_range, decide_eq_true_eq] at hi
  exact ⟨i, by omega, hi.2, rfl⟩
 ·rintro ⟨i, h1, h2, h3⟩
  exact ⟨i, by rw [List.mem_filter, List.mem_range, decide_eq_true_eq]; exact ⟨by omega, h2⟩, h3⟩
theorem bumps_head {l m : List P2} (hl : l.Pairwise (fun x y => x.1 < y.1)) (hm : m.Pairwise (fun x y => x.1 < y.1)) {T : Int} (h : (l.filter fun x => decide (x.1 < T)) = (m.filter fun x => decide (x.1 < T))) {lim n : Int} (hn : n < T) (hb : n ∈ bumpsL l lim) : n ∈ bumpsL m lim := by
 rw [mem_bumpsL] at hb ⊢
 obtain ⟨i, h1, h2, h3⟩ := hb
 have el := filter_two hl T
 have em := filter_two hm T
 obtain ⟨p, hp⟩ : ∃ p, p = (l.filter fun x => decide (x.1 < T)) := ⟨_, rfl⟩
 obtain ⟨q, hq⟩ : ∃ q, q = (l.filter fun x => decide (T ≤ x.1)) := ⟨_, rfl⟩
 obtain ⟨r, hr⟩ : ∃ r, r = (m.filter fun x => decide (T ≤ x.1)) := ⟨_, rfl⟩
 rw [← hp, ← hq] at el
 rw [← h, ← hp, ← hr] at em
 have hip : i + 1 < p.length := by
  rcases Nat.lt_or_ge (i + 1) p.length with h9 | h9
  ·exact h9
  ·exfalso
   obtain ⟨x, hx⟩ : ∃ x, l[i + 1]? = some x := ⟨_, List.getElem?_eq_getElem h1⟩
   rw [hx, Option.getD_some] at h3
   have hmem : x ∈ q := by
    rw [← el, List.getElem?_append_right h9] at hx
    exact List.mem_of_getElem? hx
   rw [hq, List.mem_filter, decide_eq_true_eq] at hmem
   omega
 have g1 : ∀ j, j < p.length → m[j]? = l[j]? := fun j hj => by
  rw [← el, ← em, List.getElem?_append_left hj, List.getElem?_append_left hj]
 refine ⟨i, ?_, ?_, ?_⟩
 ·rw [← em, List.length_append]; omega
 ·unfold chgV at h2 ⊢
  rw [g1 (i + 1) hip, g1 i (by omega)]; exact h2
 ·rw [g1 (i + 1) hip]; exact h3
theorem twin_same {l : List P2} (hs : l.Pairwise (fun x y => x.1 < y.1)) (t : Int) : swtF l l t = l := filter_two hs t
theorem twin_differ {l : List P2} (hs : l.Pairwise (fun x y => x.1 < y.1)) : difR l l = none := by
 unfold difR
 rw [List.find?_eq_none]
 intro x hx
 rw [atR_mem hs (show (x.1, x.2) ∈ l from hx)]
 simp
theorem self_over {l : List P2} (hok : TrOk l) : overR l l 0 1 = l[0]? := by
 unfold overR
 cases l with
 | nil => rfl
 | cons x l =>
   have hx : overP (x :: l) (x :: l) 0 1 x = true := by
    unfold overP
    rw [Bool.and_eq_true, decide_eq_true_eq, possB_iff]
    refine ⟨(hok.mem (List.mem_cons_self ..)).1.1, fun k hk => ?_⟩
    obtain rfl : k = 0 := by omega
    have := atR_mem hok.sorted (show (x.1, x.2) ∈ x :: l from List.mem_cons_self ..)
    exact ⟨x.2, by simpa using this, by simpa using this⟩
   rw [List.find?_cons, hx]; rfl
end
section
set_option linter.unusedSimpArgs false
set_option linter.unusedVariables false
open Go.RowKit
def hasI (l : List Int) (n : Int) : Bool := l.contains n
theorem HasInt_any (v : Value) (l : List Int) (n : Int) (w : World) (hl : l.length ≤ 1000000000) (hv : Ints w v l) :
 Calls Tryz.prog 25 #[v, .int .i64 n] w fun r w' => r = .returned (.bool (hasI l n)) ∧ w = w' := by
 obtain ⟨a, cap, rfl, hc, hv⟩ := hv
 rcases Nat.eq_zero_or_pos l.length with h0 | h0
 ·obtain rfl : l = [] := List.length_eq_zero_iff.1 h0
  go_enter Tryz.func25, Tryz.ntmps25
  go_wp2
  go_loop [5] (fun i => i = .int .i64 0) (fun _ => 0)
  case atStart => rfl
  case round =>
   obtain rfl := hrel
   go_wp2
   go_ret
   exact ⟨rfl, rfl⟩
 ·obtain ⟨b, off, rfl, hcs⟩ := hv h0
  clear hv
  go_enter Tryz.func25, Tryz.ntmps25
  go_wp2
  go_loop [5] (fun i => ∃ k : Nat, k ≤ l.length ∧ i = .int .i64 k ∧ hasI (l.take k) n = false) (fun i => l.length - (intOf i).toNat)
  case atStart => exact ⟨0, by omega, rfl, rfl⟩
  case round =>
   obtain ⟨k, hk, rfl, hf⟩ := hrel
   by_cases hlt : k < l.length
   ·have hcell := hcs k hlt
    obtain ⟨x, hx⟩ : ∃ x, l[k]? = some x := ⟨_, List.getElem?_eq_getElem hlt⟩
    rw [hx] at hcell
    simp only [Option.getD_some] at hcell
    have HX := Lib.hid hx
    have HF := Lib.hid hf
    clear hcs hx hf
    by_cases hz : x = n
    ·have HR := Lib.hid (show hasI l n = true by rw [hasI, List.contains_iff_mem, ← hz]; exact List.mem_of_getElem? HX.out)
     subst hz
     go_wp2
     go_ret
     exact ⟨by rw [HR.out]; rfl, rfl⟩
    ·have HR := Lib.hid (show hasI (l.take (k + 1)) n = false by
      have := HF.out
      unfold hasI at this ⊢
      rw [List.take_add_one, HX.out]
      simp at this ⊢
      exact ⟨this, fun h => hz h.symm⟩)
     go_wp2
     go_round
     case rel => exact ⟨k + 1, by omega, by go_num, HR.out⟩
     case measure => simp [intOf]; omega
   ·obtain rfl : k = l.length := by omega
    rw [List.take_length] at hf
    have HR := Lib.hid hf
    clear hf
    go_wp2
    go_ret
    exact ⟨by rw [HR.out]; rfl, rfl⟩
end
section
set_option linter.unusedSimpArgs false
set_option linter.unusedVariables false
open Go.RowKit
theorem good_at (la lb : List P2) (x : Int) : goodB la lb x = (atB la x && (atB lb x && (atD la x == atD lb x))) := by
 unfold goodB atB atD
 cases atR la x <;> cases atR lb x <;> rfl
theorem poss_stop {la lb : List P2} {t : Int} {k n : Nat} (hk : k < n) (h : goodB la lb (t + k) = false) : possB la lb t n = false := by
 unfold possB
 rw [List.all_eq_false]
 exact ⟨k, List.mem_range.2 hk, by rw [h]; decide⟩
set_option maxRecDepth 100000 in
set_option maxHeartbeats 4000000 in
theorem agree_any (t : Int) (la lb : List P2) (n : Nat) (a1 a2 : Option Addr) (n1 c1 n2 c2 : Nat) (G B3 B4 : Nat) (w : World) (hn : n ≤ 100) (ht : 0 ≤ t ∧ t ≤ 100000) (hla : la.length ≤ 1000000) (hlb : lb.length ≤ 1000000)
 (h8 : w.cell? ⟨G, 0, none⟩ = some (.int .i64 n)) (h3 : w.cell? ⟨B3, 1, none⟩ = some (.slice a1 n1 c1)) (h4 : w.cell? ⟨B4, 1, none⟩ = some (.slice a2 n2 c2)) (hva : Prs w (.slice a1 n1 c1) la) (hvb : Prs w (.slice a2 n2 c2) lb) :
 Calls Tryz.prog 20 #[.int .i64 t, .pointer (some ⟨G, 0, none⟩), .pointer (some ⟨B3, 0, none⟩), .pointer (some ⟨B4, 0, none⟩)] w fun r w' => r = .returned (.bool (possB la lb t n)) ∧ w = w' := by
 have TA := Lib.hid (fun x => AtR_any (.slice a1 n1 c1) la x w hla hva)
 have TB := Lib.hid (fun x => AtR_any (.slice a2 n2 c2) lb x w hlb hvb)
 have HS := Lib.hid (possB_succ la lb t)
 have HP := Lib.hid (fun (k : Nat) (hk : k < n) h => poss_stop (la := la) (lb := lb) (t := t) hk h)
 have HG := Lib.hid (good_at la lb)
 obtain ⟨R, hR⟩ : ∃ r, r = possB la lb t n := ⟨_, rfl⟩
 rw [← hR] at HP ⊢
 have HR := Lib.hid hR
 clear hva hvb hR hla hlb
 go_enter Tryz.func20, Tryz.ntmps20
 go_wp2_with fail
 go_loop [12] (fun i => ∃ k : Nat, k ≤ n ∧ i = .int .i64 k ∧ possB la lb t k = true) (fun i => n - (intOf i).toNat)
 case atStart => exact ⟨0, by omega, rfl, rfl⟩
 case round =>
  obtain ⟨k, hk, rfl, hp⟩ := hrel
  have HQ := Lib.hid hp
  clear hp
  by_cases hlt : k < n
  ·have hdk : (k : Int) < (n : Int) := by omega
   have q1 : IntKind.i64.wrap (t + (k : Int)) = t + (k : Int) := IntWalk.i64_in _ (by omega)
   obtain ⟨x, hx⟩ : ∃ x, x = t + (k : Int) := ⟨_, rfl⟩
   rw [← hx] at q1
   have hg := HG.out x
   have hs := HS.out k
   have hst := HP.out k hlt
   rw [← hx] at hs hst
   rw [HQ.out, Bool.true_and] at hs
   have T1 := Lib.hid (TA.out x)
   have T2 := Lib.hid (TB.out x)
   obtain ⟨D1, h1⟩ : ∃ d, d = atD la x := ⟨_, rfl⟩
   obtain ⟨D2, h2⟩ : ∃ d, d = atD lb x := ⟨_, rfl⟩
   obtain ⟨A1, h5⟩ : ∃ d, d = atB la x := ⟨_, rfl⟩
   obtain ⟨A2, h6⟩ : ∃ d, d = atB lb x := ⟨_, rfl⟩
   rw [← h1, ← h2, ← h5, ← h6] at hg
   rw [← h1, ← h5] at T1
   rw [← h2, ← h6] at T2
   rw [hg] at hs hst
   have q2 : IntKind.i64.wrap (t + (k : Int)) = x := by rw [hx]; rw [hx] at q1; exact q1
   have HS1 := Lib.hid hs
   have HT1 := Lib.hid hst
   clear hg hs hst h1 h2 h5 h6 hx q1
   go_wp2_with fail
   refine T1.out.mono ?_
   rintro e w1 ⟨rfl, rfl⟩
   go_wp2_with fail
   refine T2.out.mono ?_
   rintro e w1 ⟨rfl, rfl⟩
   clear T1 T2
   cases A1 with
   | false =>
     have hz := HT1.out rfl
     have HZ := Lib.hid hz
     clear hz
     go_wp2
     go_ret
     exact ⟨by rw [HZ.out]; rfl, rfl⟩
   | true =>
     cases A2 with
     | false =>
       have hz := HT1.out rfl
       have HZ := Lib.hid hz
       clear hz
       go_wp2
       go_ret
       exact ⟨by rw [HZ.out]; rfl, rfl⟩
     | true =>
       by_cases hd : D1 = D2
       ·have z : (D1 != D2) = false := by rw [bne_eq_false_iff_eq]; exact hd
        have z2 : (D1 == D2) = true := by rw [beq_iff_eq]; exact hd
        have HS2 := Lib.hid (HS1.out.trans (by rw [z2]))
        clear hd HS1 HT1
        go_wp2
        go_round
        case rel => exact ⟨k + 1, by omega, by go_num, HS2.out⟩
        case measure => simp [intOf]; omega
       ·have z : (D1 != D2) = true := by rw [bne_iff_ne]; exact hd
        have z2 : (D1 == D2) = false := by rw [beq_eq_false_iff_ne]; exact hd
        have hz := HT1.out (by rw [z2]; rfl)
        have HZ := Lib.hid hz
        clear hd hz HS1 HT1
        go_wp2
        go_ret
        exact ⟨by rw [HZ.out]; rfl, rfl⟩
  ·obtain rfl : k = n := by omega
   have hdk : ¬ (k : Int) < (k : Int) := by omega
   have hz : R = true := by rw [HR.out]; exact HQ.out
   have HZ := Lib.hid hz
   clear hz
   go_wp2
   go_ret
   exact ⟨by rw [HZ.out]; rfl, rfl⟩
end
section
set_option linter.unusedSimpArgs false
set_option linter.unusedVariables false
open Go.RowKit
/-- a train in a block of its own, of the reference's pulses. -/
def CpT (w : World) (u : Value) (l : List P2) : Prop :=
 Prs w u l ∧ (0 < l.length → ∃ (G c : Nat) (vs : List Value), u = .slice (some ⟨G, 0, none⟩) l.length c ∧ Blk w G 56 vs)
theorem CpT.carry {w w' : World} {u : Value} {l : List P2} (h : CpT w u l) (hb : Below w.heap.size w w') : CpT w' u l := by
 obtain ⟨h1, h2⟩ := h
 refine ⟨h1.carry hb, fun h0 => ?_⟩
 obtain ⟨G, c, vs, e, hB⟩ := h2 h0
 exact ⟨G, c, vs, e, hB.carry hb⟩
theorem CpT.other {w : World} {u : Value} {l : List P2} {B : Nat} {vs : List Value} (h : CpT w u l) (hB : Blk w B 34 vs) (j : Nat) (v : Value) : CpT (w.setCell ⟨B, j, none⟩ v) u l := by
 obtain ⟨h1, h2⟩ := h
 rcases Nat.eq_zero_or_pos l.length with h0 | h0
 ·obtain rfl : l = [] := List.length_eq_zero_iff.1 h0
  obtain ⟨a, c, rfl, -⟩ := h1.slice
  exact ⟨Rw.nil _ _ _ _ _, fun h => by simp at h⟩
 ·obtain ⟨G, c, vs2, rfl, hG⟩ := h2 h0
  have hne : G ≠ B := Blk.ne hG hB (by decide)
  obtain ⟨b, off, cp, e, hcs⟩ := h1.head h0
  simp only [Value.slice.injEq, Option.some.injEq, Addr.mk.injEq, true_and, and_true] at e
  obtain ⟨⟨rfl, rfl⟩, rfl⟩ := e
  refine ⟨⟨_, c, rfl, by obtain ⟨a9, c9, e9, h9⟩ := h1.slice; simp only [Value.slice.injEq] at e9; obtain ⟨-, -, rfl⟩ := e9; exact h9, fun _ => ⟨_, _, rfl, fun k x hk i y hy => ?_⟩⟩, fun _ => ⟨_, c, vs2, rfl, Blk.other hG hne v⟩⟩
  rw [World.cell?_setCell_other _ _ _ _ (by simp; try omega)]
  exact hcs k x hk i y hy
theorem wp_copy_train {o : Oper} {a : Act} {w : World} {K : Act → World → Prop} {Q : Exit → Act → World → Prop} (s x : Operand)
 (ho : o.op = .call { callee := .builtin .append, args := #[s, x], argTypes := #[32, 32] })
 (g og : Nat) (hs : a.eval s = .slice (some ⟨g, og, none⟩) 0 0) (v : Value) (l : List P2) (hx : a.eval x = v) (hv : Prs w v l) (hl : l.length ≤ 1000000)
 (h : ∀ u w', CpT w' u l → Below w.heap.size w w' → K (a.put o.dst u) w') : o.wp Tryz.prog a w K Q := by
 obtain ⟨i0, hi, hz0, hz1, hz2⟩ := info_parts Tryz.infZbipoleref07Pulse
 rcases Nat.eq_zero_or_pos l.length with h0 | h0
 ·obtain rfl : l = [] := List.length_eq_zero_iff.1 h0
  obtain ⟨xa, c, rfl, -⟩ := hv.slice
  have hr := run_append_empty (P := Tryz.prog) w 32 32 o.type _ _ i0 _ Tryz.undZbipoleref07Pulse Tryz.undZbipoleref07Pulse hi hz0 g og xa c
  unfold Oper.wp execOp
  simp only [ho, resolve, invoke, builtin, Sem.run_bind, Sem.run_pure, Result.andThen_ok, List.map_toArray, List.map_cons, List.map_nil, hs, hx, List.length_nil, hr]
  exact h _ _ ⟨Rw.nil _ _ _ _ _, fun h => by simp at h⟩ (Below.refl _ _)
 ·obtain ⟨b, off, c, rfl, hcs⟩ := hv.head h0
  refine wp_append_freshO s x _ _ _ ho i0 _ 2 16 Tryz.undZbipoleref07Pulse hi hz0 hz1 hz2 rfl g og hs _ l.length (l.flatMap pV) hx (Src.ofSlice w Tryz.undZbipoleref07Pulse ⟨b, off, none⟩ l.length c (l.flatMap pV) (flat_len pV_len l) (fun j u hj => hv.src pV_len (by decide) h0 j u hj) (by
   intro u hu
   rw [List.mem_flatMap] at hu
   obtain ⟨y, -, hy⟩ := hu
   simp [pV] at hy
   rcases hy with rfl | rfl <;> rfl)) h0 (by unfold maxLen; omega) (by omega) (fun u w' hown hb => ?_)
  have hO : OwR w' w.heap.size 56 2 pV u l := hown
  refine h u w' ⟨hO.rw pV_len, fun _ => ?_⟩ hb
  obtain ⟨G, cap, sp, e, _, _, _, hB⟩ := OwR.blk pV_len hO h0
  exact ⟨G, cap, _, e, hB⟩
end
end Go.Proofs.YtgpdalgfbfboaaaGreatDoor

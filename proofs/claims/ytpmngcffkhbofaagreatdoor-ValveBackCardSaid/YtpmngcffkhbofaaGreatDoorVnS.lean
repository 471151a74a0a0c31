/- Texts of logs: the reference's integers. -/
import Derived.Test.YtpmngcffkhbofaaGreatDoorVnH
import Derived.Test.YtpmngcffkhbofaaGreatDoorVnC
import Derived.Test.YtpmngcffkhbofaaGreatDoorVbC
import Derived.Lib.ItoaMem
import Derived.Test.YtpmngcffkhbofaaGreatDoorVfC
namespace Go.Proofs.YtpmngcffkhbofaaGreatDoor
section
set_option linter.unusedSimpArgs false
set_option linter.unusedVariables false
open Go.RowKit
theorem Keep.cell {S : Nat → Prop} {W W1 : World} (h : Keep S W W1) {b o : Nat} {v : Value} (hc : W.cell? ⟨b, o, none⟩ = some v) (hs : ¬ S b) : W1.cell? ⟨b, o, none⟩ = some v := by
 cases hh : W.heap[b]? with
 | none => simp [World.cell?, hh] at hc
 | some ob =>
   have h1 := h.same b ob hh (.inl hs)
   simp only [World.cell?, hh, h1] at hc ⊢
   exact hc
end
section
set_option linter.unusedSimpArgs false
set_option linter.unusedVariables false
open Go.RowKit
theorem dg_itoa {n : Int} (h0 : 0 ≤ n) (h1 : n < 1000000000) : digOk (Lib.itoa n) = true ∧ valD (Lib.itoa n) = n := by
 obtain ⟨u, rfl⟩ : ∃ u : Nat, n = (u : Int) := ⟨n.toNat, by omega⟩
 rw [Lib.itoa_nonneg u]
 exact ⟨digOk_dec (by omega), (dig_all u).2.1⟩
theorem itoa_dg {p : List UInt8} (h : digOk p = true) : Lib.itoa (valD p) = p := by
 have hb := valD_9 (dig_of_digOk h).2.1 (dig_of_digOk h).2.2
 have e := Lib.itoa_nonneg (valD p).toNat
 rw [show ((valD p).toNat : Int) = valD p by omega, dec_of_digOk h] at e
 exact e
theorem join_joinC (c : UInt8) : ∀ ws : List (List UInt8), Lib.join ws [c] = joinC c ws
 | [] => rfl
 | [p] => by simp [Lib.join, List.intercalate, joinC]
 | p :: q :: r => by
   have ih := join_joinC c (q :: r)
   unfold Lib.join at ih ⊢
   simp only [List.intercalate, List.intersperse_cons_cons, List.flatten_cons] at ih ⊢
   rw [joinC, ← ih]
   simp
theorem split_join (c : UInt8) : ∀ ws : List (List UInt8), ws ≠ [] → (∀ p ∈ ws, c ∉ p) → splitC c (joinC c ws) = ws
 | [], h, _ => absurd rfl h
 | [p], _, h => splitC_none c p (h p (List.mem_singleton.2 rfl))
 | p :: q :: r, _, h => by
   rw [joinC, splitC_hit c _ p (h p (List.mem_cons_self ..)), split_join c (q :: r) (by simp) (fun x hx => h x (List.mem_cons_of_mem _ hx))]
theorem itoa_free (c : UInt8) (hc : isD c = false) (h45 : c ≠ 45) (n : Int) : c ∉ Lib.itoa n := by
 rcases Int.lt_or_le n 0 with hn | hn
 ·obtain ⟨u, rfl⟩ : ∃ u : Nat, n = -(u : Int) := ⟨n.natAbs, by omega⟩
  rw [Lib.itoa_neg u (by omega)]
  intro e
  rcases List.mem_cons.1 e with e | e
  ·exact h45 e
  ·exact not_isD hc (dig_all u).1 e
 ·obtain ⟨u, rfl⟩ : ∃ u : Nat, n = (u : Int) := ⟨n.toNat, by omega⟩
  rw [Lib.itoa_nonneg u]
  exact not_isD hc (dig_all u).1
/-- a line's words, joined. -/
def bodyK (k : Nat) (l : List Int) : List UInt8 := joinC 32 (fldL k :: l.map Lib.itoa)
theorem fldL_free (k : Nat) (c : UInt8) (h : c = 10 ∨ c = 32) : c ∉ fldL k := by
 match k with
 | 0 => rcases h with rfl | rfl <;> decide
 | _ + 1 =>
   show c ∉ ([112, 117, 108, 115, 101] : List UInt8)
   rcases h with rfl | rfl <;> decide
theorem split_bodyK (k : Nat) (l : List Int) : splitC 32 (bodyK k l) = fldL k :: l.map Lib.itoa := by
 unfold bodyK
 refine split_join 32 _ (by simp) (fun p hp => ?_)
 rcases List.mem_cons.1 hp with rfl | hp
 ·exact fldL_free k 32 (.inr rfl)
 ·obtain ⟨n, _, rfl⟩ := List.mem_map.1 hp
  exact itoa_free 32 (by decide) (by decide) n
theorem joinC_free (c d : UInt8) (hcd : d ≠ c) : ∀ ws : List (List UInt8), (∀ p ∈ ws, d ∉ p) → d ∉ joinC c ws
 | [], _ => by simp [joinC]
 | [p], h => h p (List.mem_singleton.2 rfl)
 | p :: q :: r, h => by
   rw [joinC]
   intro e
   rcases List.mem_append.1 e with e | e
   ·exact h p (List.mem_cons_self ..) e
   ·rcases List.mem_cons.1 e with e | e
    ·exact hcd e
    ·exact joinC_free c d hcd (q :: r) (fun x hx => h x (List.mem_cons_of_mem _ hx)) e
theorem bodyK_free (k : Nat) (l : List Int) : (10 : UInt8) ∉ bodyK k l := by
 unfold bodyK
 refine joinC_free 32 10 (by decide) _ (fun p hp => ?_)
 rcases List.mem_cons.1 hp with rfl | hp
 ·exact fldL_free k 10 (.inl rfl)
 ·obtain ⟨n, _, rfl⟩ := List.mem_map.1 hp
  exact itoa_free 10 (by decide) (by decide) n
theorem lineN_body {k : Nat} {l : List Int} (h0 : l.length = cntL k) (hl : ∀ x ∈ l, 0 ≤ x ∧ x < 1000000000) : lineN k (bodyK k l ++ [10]) = some l := by
 rw [lineN_end, split_bodyK]
 have ha : (l.map Lib.itoa).all digOk = true := by
  rw [List.all_eq_true]
  intro p hp
  obtain ⟨x, hx, rfl⟩ := List.mem_map.1 hp
  exact (dg_itoa (hl x hx).1 (hl x hx).2).1
 have hm : (l.map Lib.itoa).map valD = l := by
  rw [List.map_map]
  conv => rhs; rw [← List.map_id l]
  apply List.map_congr_left
  intro x hx
  exact (dg_itoa (hl x hx).1 (hl x hx).2).2
 show (if fldL k = fldL k ∧ (l.map Lib.itoa).length = cntL k ∧ (l.map Lib.itoa).all digOk = true then some ((l.map Lib.itoa).map valD) else none) = some l
 rw [if_pos ⟨rfl, by rw [List.length_map]; exact h0, ha⟩, hm]
/-- the integers of a log's lines. -/
def lnT (c : Int) (l : List P2) : Nat → List Int
 | 0 => [c]
 | k + 1 => [(l[k]?.getD (0, 0)).1, (l[k]?.getD (0, 0)).2]
theorem lnT_cnt (c : Int) (l : List P2) (k : Nat) : (lnT c l k).length = cntL k := by cases k <;> rfl
theorem lineW_body (s : ByteArray) (k : Nat) (l : List Int) (hs : s.data.toList = fldL k) : (lineW s l).data.toList = bodyK k l ++ [10] := by
 unfold lineW lineJ bodyK
 rw [data_append, ← join_joinC]
 have e : (s :: l.map word).map (·.data.toList) = fldL k :: l.map Lib.itoa := by
  rw [List.map_cons, hs, List.map_map]
  congr 1
 rw [e]
theorem prtK_data (c : Int) (l : List P2) : ∀ n, (prtK c l n).data.toList = ((List.range (n + 1)).map fun k => bodyK k (lnT c l k) ++ [10]).flatten
 | 0 => by
   rw [prtK, lineW_body logS 0 [c] rfl]; simp [lnT]
 | n + 1 => by
   rw [prtK, data_append, prtK_data c l n, lineW_body pulseS (n + 1) _ rfl, List.range_succ (n := n + 1), List.map_append, List.flatten_append]
   simp [lnT]
theorem split_flat : ∀ (ps : List (List UInt8)) (r : List UInt8), (∀ p ∈ ps, (10 : UInt8) ∉ p) → splitC 10 ((ps.map (· ++ [10])).flatten ++ r) = ps ++ splitC 10 r
 | [], r, _ => by simp
 | p :: t, r, h => by
   rw [List.map_cons, List.flatten_cons, List.append_assoc, List.append_assoc, List.singleton_append, splitC_hit 10 _ p (h p (List.mem_cons_self ..)), split_flat t r (fun x hx => h x (List.mem_cons_of_mem _ hx))]
   rfl
theorem split_print (c : Int) (l : List P2) (n : Nat) (r : List UInt8) : splitC 10 ((prtK c l n).data.toList ++ r) = ((List.range (n + 1)).map fun k => bodyK k (lnT c l k)) ++ splitC 10 r := by
 rw [prtK_data, show ((List.range (n + 1)).map fun k => bodyK k (lnT c l k) ++ [10]) = ((List.range (n + 1)).map fun k => bodyK k (lnT c l k)).map (· ++ [10]) by simp [Function.comp_def]]
 refine split_flat _ r (fun p hp => ?_)
 obtain ⟨k, _, rfl⟩ := List.mem_map.1 hp
 exact bodyK_free k _
theorem lines_print (c : Int) (l : List P2) (n : Nat) : linesL (prtK c l n).data.toList = (List.range (n + 1)).map fun k => bodyK k (lnT c l k) ++ [10] := by
 have hs := split_print c l n []
 rw [List.append_nil] at hs
 unfold linesL
 simp only [hs, splitC, List.dropLast_concat, List.getLast_concat]
 simp [Function.comp_def]
/-- a log of small numbers. -/
def Small (c : Int) (l : List P2) : Prop := (0 ≤ c ∧ c < 1000000000) ∧ ∀ x ∈ l, (0 ≤ x.1 ∧ x.1 < 1000000000) ∧ 0 ≤ x.2 ∧ x.2 < 1000000000
theorem lnT_small {c : Int} {l : List P2} (h : Small c l) {k : Nat} (hk : k ≤ l.length) : ∀ x ∈ lnT c l k, 0 ≤ x ∧ x < 1000000000 := by
 intro x hx
 cases k with
 | zero =>
   simp [lnT] at hx
   rw [hx]; exact h.1
 | succ k =>
   have hy : l[k]? = some l[k] := List.getElem?_eq_getElem (by omega)
   have := h.2 _ (List.mem_of_getElem? hy)
   simp [lnT, hy] at hx
   rcases hx with rfl | rfl
   ·exact this.1
   ·exact this.2
theorem poly_at {c : Int} {l : List P2} (h : Small c l) {n k : Nat} (hn : n ≤ l.length) (hk : k < n + 1) : polyN ((List.range (n + 1)).map fun k => bodyK k (lnT c l k) ++ [10]) k = lnT c l k := by
 unfold polyN
 rw [List.getElem?_map, List.getElem?_range hk]
 simp only [Option.map_some, Option.bind_some]
 rw [lineN_body (lnT_cnt c l k) (lnT_small h (by omega))]; rfl
theorem trn_of {ls : List (List UInt8)} {c : Int} {l : List P2} (hl : ls.length = l.length + 1) (h : ∀ k, k < l.length + 1 → polyN ls k = lnT c l k) : ctlL ls = c ∧ trnT ls = l := by
 refine ⟨?_, ?_⟩
 ·unfold ctlL
  rw [h 0 (by omega)]; rfl
 ·unfold trnT
  rw [hl, Nat.add_sub_cancel]
  apply List.ext_getElem?
  intro k
  by_cases hk : k < l.length
  ·rw [List.getElem?_map, List.getElem?_range hk, List.getElem?_eq_getElem hk]
   simp only [Option.map_some]
   rw [h (k + 1) (by omega)]
   simp [lnT, pairI, hk]
  ·rw [List.getElem?_eq_none (by simp; omega), List.getElem?_eq_none (by omega)]
theorem parse_print {c : Int} {l : List P2} (h : Small c l) :
 badN (linesL (prtK c l l.length).data.toList) = none ∧ (linesL (prtK c l l.length).data.toList).length = l.length + 1 ∧ ctlL (linesL (prtK c l l.length).data.toList) = c ∧ trnT (linesL (prtK c l l.length).data.toList) = l := by
 rw [lines_print c l l.length]
 have ht := trn_of (ls := (List.range (l.length + 1)).map fun k => bodyK k (lnT c l k) ++ [10]) (c := c) (l := l) (by simp) (fun k hk => poly_at h (Nat.le_refl _) hk)
 refine ⟨badN_none fun j x hx => ?_, by simp, ht.1, ht.2⟩
 have hj : j < l.length + 1 := by
  have := (List.getElem?_eq_some_iff.1 hx).1
  simpa using this
 rw [List.getElem?_map, List.getElem?_range hj] at hx
 cases hx
 rw [lineN_body (lnT_cnt c l j) (lnT_small h (by omega))]; simp
theorem line_of {k : Nat} {x : List UInt8} {l : List Int} (h : lineN k x = some l) : x = bodyK k l ++ [10] ∧ l.length = cntL k := by
 unfold lineN at h
 by_cases hk : endsL x = true
 ·rw [if_pos hk] at h
  have hj := joinC_split 32 (bodyL x)
  obtain ⟨r, hw, hc, ha, rfl⟩ := lineI_some h
  rw [hw] at hj
  have hr : (r.map valD).map Lib.itoa = r := by
   rw [List.map_map]
   conv => rhs; rw [← List.map_id r]
   apply List.map_congr_left
   intro p hp
   exact itoa_dg (List.all_eq_true.1 ha p hp)
  refine ⟨?_, by rw [List.length_map]; exact hc⟩
  unfold bodyK
  rw [hr, hj]
  unfold endsL at hk
  have hg : x.getLast? = some 10 := by simpa using hk
  unfold bodyL
  rw [if_pos (by unfold endsL; exact hk)]
  have hne : x ≠ [] := by rintro rfl; cases hg
  have hg2 : x.getLast hne = 10 := by rw [List.getLast?_eq_some_getLast hne] at hg; exact Option.some.inj hg
  conv => lhs; rw [← List.dropLast_concat_getLast hne, hg2]
 ·rw [if_neg hk] at h; cases h
theorem lines_ne {L : List UInt8} (h : L ≠ []) : linesL L ≠ [] := by
 intro e
 have hf := flat_lines L
 rw [e] at hf
 exact h hf.symm
/-- whatever is parsed is printed as it was. -/
theorem print_parse {L : List UInt8} (h : badN (linesL L) = none) (h0 : L ≠ []) : (prtK (ctlL (linesL L)) (trnT (linesL L)) (trnT (linesL L)).length).data.toList = L := by
 have hf := flat_lines L
 have hne := lines_ne h0
 conv => rhs; rw [← hf]
 rw [prtK_data, trnT_len]
 congr 1
 generalize linesL L = ls at h hne
 have hpos := List.length_pos_iff.2 hne
 rw [show ls.length - 1 + 1 = ls.length by omega]
 apply List.ext_getElem?
 intro k
 by_cases hk : k < ls.length
 ·rw [List.getElem?_map, List.getElem?_range hk, List.getElem?_eq_getElem hk]
  have hx : ls[k]? = some ls[k] := List.getElem?_eq_getElem (by omega)
  have hn := badN_inv h k _ hx
  cases hl : lineN k ls[k] with
  | none => exact absurd hl hn
  | some l =>
    have hp : polyN ls k = l := by
     unfold polyN
     rw [hx]
     simp only [Option.bind_some]
     rw [hl]; rfl
    obtain ⟨e1, e2⟩ := line_of hl
    have hq : lnT (ctlL ls) (trnT ls) k = l := by
     cases k with
     | zero =>
       match l, e2 with
       | [a], _ => simp [lnT, ctlL, hp]
     | succ k =>
       match l, e2 with
       | [a, b], _ =>
         have ht : (trnT ls)[k]? = some (a, b) := by
          unfold trnT
          rw [List.getElem?_map, List.getElem?_range (by omega)]
          simp only [Option.map_some]
          rw [hp]; rfl
         simp [lnT, ht]
    simp only [Option.map_some]
    rw [hq, ← e1]
 ·rw [List.getElem?_eq_none (by simp; omega), List.getElem?_eq_none (by omega)]
/-- a text without its last byte. -/
theorem parse_short {c : Int} {l : List P2} (h : Small c l) : badN (linesL (prtK c l l.length).data.toList.dropLast) = some l.length ∧ (prtK c l l.length).data.toList.dropLast ≠ [] := by
 have hd : (prtK c l l.length).data.toList.dropLast = ((List.range l.length).map fun k => bodyK k (lnT c l k) ++ [10]).flatten ++ bodyK l.length (lnT c l l.length) := by
  rw [prtK_data, List.range_succ, List.map_append, List.flatten_append, List.map_cons, List.map_nil, List.flatten_cons, List.flatten_nil, List.append_nil, ← List.append_assoc, List.dropLast_concat]
 have hbn : bodyK l.length (lnT c l l.length) ≠ [] := by
  unfold bodyK
  have hf : fldL l.length ≠ [] := by cases l.length <;> simp [fldL]
  cases hm : (lnT c l l.length).map Lib.itoa with
  | nil => simpa [joinC] using hf
  | cons a r => simp [joinC]
 have hs : splitC 10 (((List.range l.length).map fun k => bodyK k (lnT c l k) ++ [10]).flatten ++ bodyK l.length (lnT c l l.length)) = ((List.range l.length).map fun k => bodyK k (lnT c l k)) ++ [bodyK l.length (lnT c l l.length)] := by
  rw [show ((List.range l.length).map fun k => bodyK k (lnT c l k) ++ [10]) = ((List.range l.length).map fun k => bodyK k (lnT c l k)).map (· ++ [10]) by simp [Function.comp_def]]
  rw [split_flat _ _ (fun p hp => by
   obtain ⟨k, _, rfl⟩ := List.mem_map.1 hp
   exact bodyK_free k _), splitC_none 10 _ (bodyK_free _ _)]
 rw [hd]
 have hl : linesL (((List.range l.length).map fun k => bodyK k (lnT c l k) ++ [10]).flatten ++ bodyK l.length (lnT c l l.length)) = ((List.range l.length).map fun k => bodyK k (lnT c l k) ++ [10]) ++ [bodyK l.length (lnT c l l.length)] := by
  unfold linesL
  simp only [hs, List.dropLast_concat, List.getLast_concat]
  rw [if_neg hbn]
  simp [Function.comp_def]
 rw [hl]
 refine ⟨badN_some (l := bodyK l.length (lnT c l l.length)) (n := l.length) ?_ (lineN_free (bodyK_free _ _)) (fun j x hj hx => ?_), fun e => hbn (List.append_eq_nil_iff.1 e).2⟩
 ·rw [List.getElem?_append_right (by simp)]; simp
 ·rw [List.getElem?_append_left (by simp; omega), List.getElem?_map, List.getElem?_range hj] at hx
  simp only [Option.map_some, Option.some.injEq] at hx
  rw [← hx, lineN_body (lnT_cnt c l j) (lnT_small h (by omega))]; simp
end
section
set_option linter.unusedSimpArgs false
set_option linter.unusedVariables false
open Go.RowKit
/-- a telegram of another source. -/
def decoy (c : Int) : Tg := (Int.tmod (c + 1) 256, 0, -5, 6, 0, 0)
def mixL (c : Int) : List P2 → List Tg
 | [] => []
 | x :: t => decoy c :: telG c x :: mixL c t
theorem mixL_snoc (c : Int) (x : P2) : ∀ l, mixL c (l ++ [x]) = mixL c l ++ [decoy c, telG c x]
 | [] => rfl
 | y :: t => by
   rw [List.cons_append, mixL, mixL_snoc c x t, mixL]; rfl
theorem mixL_len (c : Int) : ∀ l, (mixL c l).length = 2 * l.length
 | [] => rfl
 | y :: t => by
   rw [mixL, List.length_cons, List.length_cons, mixL_len c t, List.length_cons]; omega
theorem mixL_even (c : Int) : ∀ (l : List P2) (k : Nat), k < l.length → (mixL c l)[2 * k]? = some (decoy c)
 | [], k, h => by simp at h
 | y :: t, 0, _ => rfl
 | y :: t, k + 1, h => by
   rw [show 2 * (k + 1) = 2 * k + 1 + 1 by omega, mixL, List.getElem?_cons_succ, List.getElem?_cons_succ]
   exact mixL_even c t k (by simpa using h)
theorem mixL_odd (c : Int) : ∀ (l : List P2) (k : Nat) (x : P2), l[k]? = some x → (mixL c l)[2 * k + 1]? = some (telG c x)
 | [], k, x, h => by simp at h
 | y :: t, 0, x, h => by
   simp only [List.getElem?_cons_zero, Option.some.injEq] at h
   subst h; rfl
 | y :: t, k + 1, x, h => by
   rw [show 2 * (k + 1) + 1 = 2 * k + 1 + 1 + 1 by omega, mixL, List.getElem?_cons_succ, List.getElem?_cons_succ]
   exact mixL_odd c t k x (by simpa using h)
theorem mixL_mem (c : Int) : ∀ (l : List P2) (t : Tg), t ∈ mixL c l → t = decoy c ∨ ∃ x ∈ l, t = telG c x
 | [], t, h => by simp [mixL] at h
 | y :: r, t, h => by
   rw [mixL] at h
   rcases List.mem_cons.1 h with h | h
   ·exact .inl h
   ·rcases List.mem_cons.1 h with h | h
    ·exact .inr ⟨y, List.mem_cons_self .., h⟩
    ·rcases mixL_mem c r t h with h | ⟨x, hx, h⟩
     ·exact .inl h
     ·exact .inr ⟨x, List.mem_cons_of_mem _ hx, h⟩
/-- no two successive pulses are more than a turn apart. -/
def GapOk (l : List P2) : Prop := ∀ (k : Nat) (x y : P2), l[k]? = some x → l[k + 1]? = some y → y.1 - x.1 ≤ 65536
def startOf (l : List P2) : Int := (l[0]?.getD (0, 0)).1
def fromK (l : List P2) : Nat → Int
 | 0 => startOf l
 | k + 1 => (l[k]?.getD (0, 0)).1 + 1
theorem tick_emod (f c : Int) : rcTick f c = f + (c - f) % 65536 := by
 unfold rcTick
 rw [Int.tmod_def]
 omega
theorem tick_back {f t : Int} (h0 : 0 ≤ t) (h1 : f ≤ t) (h2 : t - f ≤ 65535) : rcTick f (Int.tmod t 65536) = t := by
 rw [tick_emod, Int.tmod_eq_emod_of_nonneg h0]
 omega
theorem from_at {l : List P2} (hl : TrOk l) (hg : GapOk l) {k : Nat} {x : P2} (hx : l[k]? = some x) : fromK l k ≤ x.1 ∧ x.1 - fromK l k ≤ 65535 := by
 cases k with
 | zero => simp [fromK, startOf, hx]
 | succ k =>
   have hk := (List.getElem?_eq_some_iff.1 hx).1
   obtain ⟨y, hy⟩ : ∃ y, l[k]? = some y := ⟨_, List.getElem?_eq_getElem (by omega)⟩
   have h1 := hl.asc k y x hy hx
   have h2 := hg k y x hy hx
   simp only [fromK, hy, Option.getD_some]
   omega
theorem decoy_ne {c : Int} (hc : 0 ≤ c ∧ c ≤ 255) : (decoy c).1 ≠ c := by
 show Int.tmod (c + 1) 256 ≠ c
 rw [Int.tmod_eq_emod_of_nonneg (by omega)]
 omega
theorem rc_mix {c : Int} {l : List P2} (hc : 0 ≤ c ∧ c ≤ 255) (hl : TrOk l) (hg : GapOk l) : ∀ k, k ≤ l.length → rcK c (startOf l) (mixL c l) (2 * k) = (l.take k, fromK l k)
 | 0, _ => rfl
 | k + 1, hk => by
   have ih := rc_mix hc hl hg k (by omega)
   obtain ⟨x, hx⟩ : ∃ x, l[k]? = some x := ⟨_, List.getElem?_eq_getElem (by omega)⟩
   have h1 : rcK c (startOf l) (mixL c l) (2 * k + 1) = rcK c (startOf l) (mixL c l) (2 * k) := by
    rw [rcK, mixL_even c l k (by omega), Option.getD_some, if_neg (decoy_ne hc)]
   have hr := hl.rng k x hx
   obtain ⟨h2, h3⟩ := from_at hl hg hx
   rw [show 2 * (k + 1) = (2 * k + 1) + 1 by omega, rcK, mixL_odd c l k x hx, Option.getD_some, if_pos (show (telG c x).1 = c from rfl), h1, ih]
   have ht : rcTick (fromK l k) (telG c x).2.1 = x.1 := tick_back hr.1.1 h2 h3
   simp only [ht]
   rw [List.take_add_one, hx]
   simp [fromK, hx, telG]
theorem rcx_mix {c : Int} {l : List P2} (hc : 0 ≤ c ∧ c ≤ 255) (hl : TrOk l) (hg : GapOk l) (j : Nat) (hj : j < (mixL c l).length) : rcX c (startOf l) (mixL c l) j = 0 := by
 rw [mixL_len] at hj
 obtain ⟨k, hk | hk⟩ : ∃ k, j = 2 * k ∨ j = 2 * k + 1 := ⟨j / 2, by omega⟩
 ·subst hk
  unfold rcX
  rw [mixL_even c l k (by omega), Option.getD_some, if_neg (decoy_ne hc)]
 ·subst hk
  obtain ⟨x, hx⟩ : ∃ x, l[k]? = some x := ⟨_, List.getElem?_eq_getElem (by omega)⟩
  have h1 : rcK c (startOf l) (mixL c l) (2 * k + 1) = rcK c (startOf l) (mixL c l) (2 * k) := by
   rw [rcK, mixL_even c l k (by omega), Option.getD_some, if_neg (decoy_ne hc)]
  have hr := hl.rng k x hx
  obtain ⟨h2, h3⟩ := from_at hl hg hx
  have ht : rcTick (fromK l k) (telG c x).2.1 = x.1 := tick_back hr.1.1 h2 h3
  have hb : rcBad (telG c x) = false := by
   unfold rcBad
   have e : bits .and .i64 (telG c x).2.2.1 4095 = x.2 := by
    rw [and4095]
    show x.2 % 4096 = x.2
    omega
   rw [e]
   simp [tgL, telG]
  unfold rcX
  rw [mixL_odd c l k x hx, Option.getD_some, if_pos (show (telG c x).1 = c from rfl), if_neg (by rw [hb]; decide), h1, rc_mix hc hl hg k (by omega)]
  simp only [ht]
  rw [if_neg (by omega)]
theorem firstE_zeros : ∀ l : List Int, (∀ x ∈ l, x = 0) → firstE l = 0
 | [], _ => rfl
 | x :: t, h => by
   rw [firstE_cons0]
   exact ⟨h x (List.mem_cons_self ..), firstE_zeros t (fun y hy => h y (List.mem_cons_of_mem _ hy))⟩
theorem within_ok {n lo hi : Int} (h : lo ≤ n ∧ n ≤ hi) : withinE n lo hi = 0 := by
 unfold withinE
 rw [if_neg (by omega)]
theorem tg_ok {a b x y z u : Int} (h1 : 0 ≤ a ∧ a ≤ 255) (h2 : 0 ≤ b ∧ b ≤ 65535) (h3 : -32768 ≤ x ∧ x ≤ 32767) (h4 : -32768 ≤ y ∧ y ≤ 32767) (h5 : -32768 ≤ z ∧ z ≤ 32767) (h6 : -32768 ≤ u ∧ u ≤ 32767) : tgE (a, b, x, y, z, u) = 0 := by
 have hA : tgA (a, b, x, y, z, u) = 0 := firstE_zeros _ (fun v hv => by
  simp only [List.mem_cons, List.not_mem_nil, or_false] at hv
  rcases hv with rfl | rfl
  ·exact within_ok h1
  ·exact within_ok h2)
 unfold tgE
 rw [if_pos hA]
 exact firstE_zeros _ (fun v hv => by
  simp only [tgL, List.map_cons, List.map_nil, List.mem_cons, List.not_mem_nil, or_false] at hv
  rcases hv with rfl | rfl | rfl | rfl
  ·exact within_ok h3
  ·exact within_ok h4
  ·exact within_ok h5
  ·exact within_ok h6)
theorem mix_ok {c : Int} {l : List P2} (hc : 0 ≤ c ∧ c ≤ 255) (hl : TrOk l) (hn : l.length ≤ 500) : ctE (mixL c l) = 0 := by
 unfold ctE
 rw [if_neg (by rw [mixL_len]; omega)]
 refine firstE_zeros _ (fun v hv => ?_)
 obtain ⟨t, ht, rfl⟩ := List.mem_map.1 hv
 rcases mixL_mem c l t ht with rfl | ⟨x, hx, rfl⟩
 ·exact tg_ok (by
   have h1 : Int.tmod (c + 1) 256 = (c + 1) % 256 := Int.tmod_eq_emod_of_nonneg (by omega)
   omega) (by decide) (by decide) (by decide) (by decide) (by decide)
 ·have hr := hl.mem hx
  exact tg_ok hc (by
   have h1 : Int.tmod x.1 65536 = x.1 % 65536 := Int.tmod_eq_emod_of_nonneg hr.1.1
   omega) (by omega) (by decide) (by decide) (by decide)
/-- the log of its telegrams is the log, with telegrams of another source between. -/
theorem back_ok {c : Int} {l : List P2} (hc : 0 ≤ c ∧ c ≤ 255) (hl : TrOk l) (hg : GapOk l) : rcE c (startOf l) (mixL c l) = 0 ∧ rcR c (startOf l) (mixL c l) = (c, l) := by
 have hn := hl.len
 have hs : 0 ≤ startOf l ∧ startOf l ≤ 100000 := (hl.at 0).1
 have e1 : rcE1 c (startOf l) (mixL c l) = 0 := firstE_zeros _ (fun v hv => by
  simp only [List.mem_cons, List.not_mem_nil, or_false] at hv
  rcases hv with rfl | rfl | rfl
  ·exact mix_ok hc hl (by omega)
  ·exact within_ok hc
  ·exact within_ok hs)
 have e2 : rcE2 c (startOf l) (mixL c l) = 0 := rcE2_end (fun j hj => rcx_mix hc hl hg j hj)
 have hk : rcK c (startOf l) (mixL c l) (mixL c l).length = (l, fromK l l.length) := by
  rw [mixL_len, rc_mix hc hl hg l.length (Nat.le_refl _), List.take_length]
 have e : rcE c (startOf l) (mixL c l) = 0 := by
  unfold rcE
  rw [if_pos e1, if_pos e2, hk, if_neg (by simp; omega)]
 refine ⟨e, ?_⟩
 unfold rcR
 rw [if_pos e, hk]
end
section
set_option linter.unusedSimpArgs false
set_option linter.unusedVariables false
open Go.RowKit
theorem log_small {c : Int} {l : List P2} (h : logE c l = 0) : Small c l := by
 obtain ⟨hc, ht⟩ := logE_ok h
 exact ⟨⟨hc.1, by omega⟩, fun x hx => by have := ht.mem hx; omega⟩
theorem text_size {c : Int} {l : List P2} (h : logE c l = 0) (hn : l.length ≤ 12) : (prtK c l l.length).size ≤ 1300 := by
 obtain ⟨hc, ht⟩ := logE_ok h
 have := prtK_size c l hc ht l.length (Nat.le_refl _)
 omega
theorem text_parse {c : Int} {l : List P2} (h : logE c l = 0) (hn : l.length ≤ 12) : parE (prtK c l l.length).data.toList = 0 ∧ parN (prtK c l l.length).data.toList = 0 ∧ parC (prtK c l l.length).data.toList = c ∧ parT (prtK c l l.length).data.toList = l := by
 have hs := text_size h hn
 rw [← data_len] at hs
 obtain ⟨h1, h2, h3, h4⟩ := parse_print (log_small h)
 have hne := (parse_short (log_small h)).2
 exact par_ok (by omega) (fun e => by rw [e] at hne; exact hne rfl) h1 h3 h4 h
theorem text_cut {c : Int} {l : List P2} (h : logE c l = 0) (hn : l.length ≤ 12) {L : List UInt8} (hL : L = (prtK c l l.length).data.toList.dropLast) : parE L = 25 ∧ parN L = (l.length : Int) ∧ parC L = 0 ∧ parT L = [] := by
 subst hL
 have hs := text_size h hn
 rw [← data_len] at hs
 obtain ⟨h1, h2⟩ := parse_short (log_small h)
 exact par_bad (by rw [List.length_dropLast]; omega) h2 h1
theorem text_pos {c : Int} {l : List P2} (h : logE c l = 0) : ∃ m, (prtK c l l.length).size = m + 1 := by
 have hne := (parse_short (log_small h)).2
 have h0 : (prtK c l l.length).data.toList ≠ [] := fun e => by rw [e] at hne; exact hne rfl
 have := List.length_pos_iff.2 h0
 rw [data_len] at this
 exact ⟨_, (Nat.sub_add_cancel this).symm⟩
theorem cut_last (b : ByteArray) (m : Nat) (h : b.size = m + 1) : (b.extract 0 m).data.toList = b.data.toList.dropLast := by
 have hs : b.data.toList.length = b.size := data_len _
 rw [ByteArray.data_extract, Array.toList_extract, List.dropLast_eq_take, hs, h]
 simp [List.extract]
theorem text_split (c : Int) (l : List P2) : (splitC 10 (prtK c l l.length).data.toList).length = l.length + 2 := by
 have h := split_print c l l.length []
 rw [List.append_nil] at h
 rw [h]
 simp [splitC]
theorem told_print {s : ByteArray} (h : parE s.data.toList = 0) : logE (parC s.data.toList) (parT s.data.toList) = 0 ∧ prtK (parC s.data.toList) (parT s.data.toList) (parT s.data.toList).length = s := by
 have h' := h
 unfold parE at h
 by_cases h1 : 4096 < s.data.toList.length
 ·rw [if_pos h1] at h; cases h
 ·rw [if_neg h1] at h
  by_cases h2 : s.data.toList = []
  ·rw [if_pos h2] at h; cases h
  ·rw [if_neg h2] at h
   cases hb : badN (linesL s.data.toList) with
   | some n => rw [hb] at h; cases h
   | none =>
     rw [hb] at h
     simp only at h
     have e1 : parC s.data.toList = ctlL (linesL s.data.toList) := by unfold parC; rw [if_pos h']
     have e2 : parT s.data.toList = trnT (linesL s.data.toList) := by unfold parT; rw [if_pos h']
     rw [e1, e2]
     exact ⟨h, baEq (print_parse hb h2)⟩
theorem text_splitR (c : Int) (l : List P2) (w : World) (hl : (prtK c l l.length).size ≤ 1300) :
 Calls Tryz.prog 16 #[.string (prtK c l l.length), .int .u8 10] w fun e w' => (∃ g cap, e = .returned (.slice (some ⟨g, 0, none⟩) (l.length + 2) cap)) ∧ Below w.heap.size w w' := by
 refine (Split_any (prtK c l l.length) 10 w (by omega)).mono ?_
 rintro e w' ⟨⟨u, rfl, hu⟩, hb⟩
 unfold OwnT at hu
 rw [text_split c l] at hu
 obtain ⟨g, cap, rfl⟩ := ownsRow_succ hu
 exact ⟨⟨g, cap, rfl⟩, hb⟩
end
end Go.Proofs.YtpmngcffkhbofaaGreatDoor

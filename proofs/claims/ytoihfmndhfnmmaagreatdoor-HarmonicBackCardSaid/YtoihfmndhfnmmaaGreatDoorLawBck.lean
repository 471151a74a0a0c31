/- Plain facts: a filter's text is parsed as it was printed, and whatever is parsed is printed as it was. -/
import Derived.Test.YtoihfmndhfnmmaaGreatDoorTxtJ
import Derived.Test.YtoihfmndhfnmmaaGreatDoorTxtL
import Derived.Test.YtoihfmndhfnmmaaGreatDoorHpO
import Derived.Test.YtoihfmndhfnmmaaGreatDoorHqA
import Derived.Test.YtoihfmndhfnmmaaGreatDoorFltA
namespace Go.Proofs.YtoihfmndhfnmmaaGreatDoor
section
set_option linter.unusedSimpArgs false
set_option linter.unusedVariables false
open Go.RowKit
theorem lineP_endP (p : List UInt8) : lineP (p ++ [10]) = brW (splitC 32 p) := by
  unfold lineP
  rw [if_pos (by simp), List.dropLast_concat]
theorem lineP_freeP {p : List UInt8} (h : (10 : UInt8) ∉ p) : lineP p = none := by
  unfold lineP
  rw [if_neg]
  intro e
  exact h (List.mem_of_getLast? e)
/-- the partsP of a text: whole lines, and what stands behind the last end. -/
theorem partsP (L : List UInt8) : ∃ init last, splitC 10 L = init ++ [last] ∧ (10 : UInt8) ∉ last ∧ linesL L = init.map (· ++ [10]) ++ (if last = [] then [] else [last]) := by
  have hne := splitC_ne 10 L
  refine ⟨(splitC 10 L).dropLast, (splitC 10 L).getLast hne, (List.dropLast_concat_getLast hne).symm, splitC_free 10 L _ (List.getLast_mem hne), rfl⟩
def brPP (p : List UInt8) : Option (Int × Int) := brW (splitC 32 p)
theorem bad_lastP {L : List UInt8} {init : List (List UInt8)} {last : List UInt8} (hl : linesL L = init.map (· ++ [10]) ++ (if last = [] then [] else [last])) (hf : (10 : UInt8) ∉ last) (hn : last ≠ [])
    (hg : ∀ q ∈ init, brPP q ≠ none) : badAt (linesL L) = some init.length := by
  rw [if_neg hn] at hl
  refine badAt_some (l := last) ?_ (lineP_freeP hf) (fun j x hj hx => ?_)
  · rw [hl, List.getElem?_append_right (by rw [List.length_map]; exact Nat.le_refl _), List.length_map]; simp
  · rw [hl, List.getElem?_append_left (by rw [List.length_map]; omega), List.getElem?_map] at hx
    obtain ⟨q, hq, rfl⟩ := Option.map_eq_some_iff.1 hx
    rw [lineP_endP]
    exact hg q (List.mem_of_getElem? hq)

theorem ofNat_toNat {k : Nat} (h : k < 10) : (UInt8.ofNat (48 + k)).toNat = 48 + k := by
  rw [UInt8.toNat_ofNat']; omega
theorem dig_step (u : Nat) : Lib.decDigits u = if u < 10 then [UInt8.ofNat (48 + u)] else Lib.decDigits (u / 10) ++ [UInt8.ofNat (48 + u % 10)] := by
  rw [Lib.decDigits]
  by_cases h : u < 10
  · rw [dif_pos h, if_pos h]
  · rw [dif_neg h, if_neg h]
theorem isD_of {k : Nat} (h : k < 10) : isD (UInt8.ofNat (48 + k)) = true := (isD_iff _).2 (by rw [ofNat_toNat h]; omega)
theorem dig_all (u : Nat) : (Lib.decDigits u).all isD = true ∧ valD (Lib.decDigits u) = (u : Int) ∧ 0 < (Lib.decDigits u).length ∧ ((Lib.decDigits u).length = 1 ∨ (Lib.decDigits u)[0]?.getD 0 ≠ 48) ∧ (0 < u → (Lib.decDigits u)[0]?.getD 0 ≠ 48) := by
  induction u using Nat.strongRecOn with
  | _ u ih =>
    rw [dig_step]
    by_cases h : u < 10
    · rw [if_pos h]
      refine ⟨by rw [List.all_cons, isD_of h]; rfl, ?_, by simp, .inl rfl, fun h0 => ?_⟩
      · simp [valD, ofNat_toNat h]; omega
      · intro e
        have := congrArg UInt8.toNat e
        simp [ofNat_toNat h] at this
        have h2 := ofNat_toNat h
        omega
    · rw [if_neg h]
      obtain ⟨h1, h2, h3, h4, h5⟩ := ih (u / 10) (by omega)
      have hr : u % 10 < 10 := by omega
      have hh : (Lib.decDigits (u / 10) ++ [UInt8.ofNat (48 + u % 10)])[0]?.getD 0 = (Lib.decDigits (u / 10))[0]?.getD 0 := by rw [List.getElem?_append_left h3]
      refine ⟨by rw [List.all_append, h1, List.all_cons, isD_of hr]; rfl, ?_, by simp, .inr ?_, fun _ => ?_⟩
      · rw [valD_snoc, h2, ofNat_toNat hr]; omega
      · rw [hh]; exact h5 (by omega)
      · rw [hh]; exact h5 (by omega)
theorem dig_len : ∀ (d u : Nat), u < 10 ^ (d + 1) → (Lib.decDigits u).length ≤ d + 1
  | 0, u, h => by
    rw [dig_step, if_pos (by simpa using h)]; simp
  | d + 1, u, h => by
    rw [dig_step]
    by_cases h10 : u < 10
    · rw [if_pos h10]; simp
    · rw [if_neg h10, List.length_append, List.length_singleton]
      have := dig_len d (u / 10) (by rw [Nat.pow_succ] at h; omega)
      omega
theorem digOk_dec {u : Nat} (h : u < 1000000000) : digOk (Lib.decDigits u) = true := by
  obtain ⟨h1, _, h3, h4, _⟩ := dig_all u
  exact digOk_true (by omega) (dig_len 8 u (by simpa using h)) h4 h1
/-- a word that is an integer is the integer's text. -/
theorem dec_val : ∀ (n : Nat) (l : List UInt8), l.length = n → 0 < n → l.all isD = true → (n = 1 ∨ l[0]?.getD 0 ≠ 48) → Lib.decDigits (valD l).toNat = l
  | 0, l, _, h, _, _ => by omega
  | 1, l, hl, _, ha, _ => by
    match l, hl with
    | [b], _ =>
      have hb := (isD_iff b).1 (by simpa using ha)
      have hv : valD [b] = (b.toNat : Int) - 48 := by simp [valD]
      rw [hv, dig_step, if_pos (by omega), show ((b.toNat : Int) - 48).toNat = b.toNat - 48 by omega, show 48 + (b.toNat - 48) = b.toNat by omega]
      simp
  | n + 2, l, hl, _, ha, hz => by
    obtain ⟨l', b, rfl⟩ : ∃ l' b, l = l' ++ [b] := ⟨l.dropLast, l.getLast (by intro e; rw [e] at hl; cases hl), (List.dropLast_concat_getLast _).symm⟩
    rw [List.length_append, List.length_singleton] at hl
    have hl' : l'.length = n + 1 := by omega
    rw [List.all_append, Bool.and_eq_true] at ha
    have hb := (isD_iff b).1 (by simpa using ha.2)
    have hh : l'[0]?.getD 0 ≠ 48 := by
      rcases hz with hz | hz
      · omega
      · rwa [List.getElem?_append_left (by omega)] at hz
    have ih := dec_val (n + 1) l' hl' (by omega) ha.1 (.inr hh)
    have hbd := valD_bd l'.length l' rfl ha.1
    have hpos : 0 < valD l' := by
      rcases Int.lt_or_le 0 (valD l') with h | h
      · exact h
      · exfalso
        have h0 : valD l' = 0 := by omega
        rw [h0] at ih
        have : l' = [48] := by rw [← ih]; show Lib.decDigits 0 = [48]; rw [dig_step]; rfl
        rw [this] at hh
        exact hh rfl
    rw [valD_snoc, dig_step, if_neg (by omega), show (10 * valD l' + ((b.toNat : Int) - 48)).toNat / 10 = (valD l').toNat by omega, show (10 * valD l' + ((b.toNat : Int) - 48)).toNat % 10 = b.toNat - 48 by omega, ih, show 48 + (b.toNat - 48) = b.toNat by omega]
    simp
theorem dec_of_digOk {l : List UInt8} (h : digOk l = true) : Lib.decDigits (valD l).toNat = l := by
  unfold digOk at h
  simp only [Bool.and_eq_true, decide_eq_true_eq, Bool.or_eq_true] at h
  obtain ⟨⟨⟨h0, _⟩, h1⟩, ha⟩ := h
  refine dec_val l.length l rfl (by omega) ha (h1.imp id fun h => ?_)
  intro e
  apply h
  have h0' : 0 < l.length := by omega
  rw [List.getElem?_eq_getElem h0'] at e ⊢
  rw [← e]; rfl

/-- the digits of a number that is not negative. -/
def decI (n : Int) : List UInt8 := Lib.decDigits n.toNat
def bodyX (x : Int × Int) : List UInt8 := [98, 114, 97, 110, 99, 104] ++ 32 :: (decI x.1 ++ 32 :: decI x.2)
theorem not_isD {c : UInt8} {l : List UInt8} (hc : isD c = false) (h : l.all isD = true) : c ∉ l := fun e => by
  have := List.all_eq_true.1 h c e
  rw [hc] at this; cases this
theorem lineB_data {x : Int × Int} (h1 : 0 ≤ x.1) (h2 : 0 ≤ x.2) : (lineB x).data.toList = bodyX x ++ [10] := by
  unfold lineB bodyX decI
  simp only [data_append]
  rw [word_dec h1, word_dec h2]
  simp [decB]
theorem split_body (x : Int × Int) : splitC 32 (bodyX x) = [[98, 114, 97, 110, 99, 104], decI x.1, decI x.2] := by
  unfold bodyX
  rw [splitC_hit 32 _ _ (by decide), splitC_hit 32 _ (decI x.1) (not_isD (by decide) (show (decI x.1).all isD = true from (dig_all _).1)), splitC_none 32 (decI x.2) (not_isD (by decide) (show (decI x.2).all isD = true from (dig_all _).1))]
theorem body_free (x : Int × Int) : (10 : UInt8) ∉ bodyX x := by
  unfold bodyX
  intro h
  rcases List.mem_append.1 h with h | h
  · exact absurd h (by decide)
  · rcases List.mem_cons.1 h with h | h
    · exact absurd h (by decide)
    · rcases List.mem_append.1 h with h | h
      · exact not_isD (c := 10) (by decide) (dig_all _).1 h
      · rcases List.mem_cons.1 h with h | h
        · exact absurd h (by decide)
        · exact not_isD (c := 10) (by decide) (dig_all _).1 h
theorem brW_body {x : Int × Int} (h1 : 0 ≤ x.1 ∧ x.1 < 1000000000) (h2 : 0 ≤ x.2 ∧ x.2 < 1000000000) : brW (splitC 32 (bodyX x)) = some x := by
  rw [split_body, brW_cons]
  have e1 : digOk (decI x.1) = true := digOk_dec (by omega)
  have e2 : digOk (decI x.2) = true := digOk_dec (by omega)
  rw [if_pos ⟨rfl, rfl, by simp [twoW, okW, e1, e2]⟩]
  have v1 : valD (decI x.1) = x.1 := by rw [decI, (dig_all _).2.1]; omega
  have v2 : valD (decI x.2) = x.2 := by rw [decI, (dig_all _).2.1]; omega
  simp [v1, v2]
/-- the text of a filter in lines. -/
theorem split_print (ls : List (Int × Int)) (h : ∀ x ∈ ls, brE x = 0) : splitC 10 (accB ls).data.toList = ls.map bodyX ++ [[]] := by
  rw [accB_data]
  induction ls with
  | nil => rfl
  | cons x t ih =>
    have hb := brE_zero (h x (List.mem_cons_self ..))
    rw [List.map_cons, List.flatten_cons, lineB_data hb.1.1 hb.2.1, List.append_assoc, List.singleton_append, splitC_hit 10 _ _ (body_free x), ih (fun y hy => h y (List.mem_cons_of_mem _ hy))]
    rfl
theorem lines_print (ls : List (Int × Int)) (h : ∀ x ∈ ls, brE x = 0) : linesL (accB ls).data.toList = ls.map fun x => bodyX x ++ [10] := by
  unfold linesL
  simp only [split_print ls h, List.dropLast_concat, List.getLast_concat]
  simp
theorem lineP_body {x : Int × Int} (h : brE x = 0) : lineP (bodyX x ++ [10]) = some x := by
  have hb := brE_zero h
  unfold lineP
  rw [if_pos (by simp), List.dropLast_concat]
  exact brW_body (by omega) (by omega)
/-- a filter is parsed as it was printed. -/
theorem parse_print (ls : List (Int × Int)) (h : ∀ x ∈ ls, brE x = 0) : badAt (linesL (accB ls).data.toList) = none ∧ brsOf (linesL (accB ls).data.toList) = ls := by
  rw [lines_print ls h]
  refine ⟨badAt_none fun l hl => ?_, ?_⟩
  · obtain ⟨x, hx, rfl⟩ := List.mem_map.1 hl
    rw [lineP_body (h x hx)]; simp
  · unfold brsOf
    rw [List.filterMap_map]
    induction ls with
    | nil => rfl
    | cons x t ih =>
      rw [List.filterMap_cons]
      simp only [Function.comp]
      rw [lineP_body (h x (List.mem_cons_self ..))]
      simp only
      rw [ih (fun y hy => h y (List.mem_cons_of_mem _ hy))]
/-- the partsP of a text make the text. -/
def joinC (c : UInt8) : List (List UInt8) → List UInt8
  | [] => []
  | [p] => p
  | p :: q :: r => p ++ c :: joinC c (q :: r)
theorem joinC_split (c : UInt8) : ∀ l, joinC c (splitC c l) = l
  | [] => rfl
  | x :: t => by
    have ih := joinC_split c t
    rw [splitC]
    by_cases h : x = c
    · rw [if_pos h]
      cases hs : splitC c t with
      | nil => exact absurd hs (splitC_ne c t)
      | cons p ps =>
        rw [hs] at ih
        rw [joinC, ih, h]; rfl
    · rw [if_neg h]
      cases hs : splitC c t with
      | nil => exact absurd hs (splitC_ne c t)
      | cons p ps =>
        rw [hs] at ih
        cases ps with
        | nil => simp only [joinC] at ih ⊢; rw [ih]
        | cons q r => simp only [joinC] at ih ⊢; rw [List.cons_append, ih]
theorem flat_lines (l : List UInt8) : (linesL l).flatten = l := by
  have hj := joinC_split 10 l
  have key : ∀ (init : List (List UInt8)) (last : List UInt8), joinC 10 (init ++ [last]) = ((init.map (· ++ [10])) ++ (if last = [] then [] else [last])).flatten := by
    intro init last
    induction init with
    | nil => by_cases h : last = [] <;> simp [joinC, h]
    | cons p t ih =>
      have : joinC 10 ((p :: t) ++ [last]) = p ++ 10 :: joinC 10 (t ++ [last]) := by
        cases t with
        | nil => rfl
        | cons q r => rfl
      rw [this, ih, List.map_cons, List.cons_append, List.flatten_cons, List.append_assoc]
      rfl
  obtain ⟨init, last, hs, _, hl⟩ := partsP l
  rw [hl, ← key, ← hs, hj]
theorem line_of {l : List UInt8} {x : Int × Int} (h : lineP l = some x) : l = bodyX x ++ [10] ∧ 0 ≤ x.1 ∧ 0 ≤ x.2 := by
  unfold lineP at h
  by_cases hl : l.getLast? = some 10
  · rw [if_pos hl] at h
    unfold brW at h
    by_cases hw : (splitC 32 l.dropLast).length = 3 ∧ (splitC 32 l.dropLast)[0]?.getD [] = [98, 114, 97, 110, 99, 104] ∧ digOk ((splitC 32 l.dropLast)[1]?.getD []) = true ∧ digOk ((splitC 32 l.dropLast)[2]?.getD []) = true
    · rw [if_pos hw] at h
      have hj := joinC_split 32 l.dropLast
      obtain ⟨w0, w1, w2, hs⟩ : ∃ a b c, splitC 32 l.dropLast = [a, b, c] := by
        match splitC 32 l.dropLast, hw.1 with
        | [a, b, c], _ => exact ⟨a, b, c, rfl⟩
      rw [hs] at hw hj h
      obtain ⟨_, h0, h1, h2⟩ := hw
      simp only [List.getElem?_cons_zero, List.getElem?_cons_succ, Option.getD_some] at h0 h1 h2 h
      cases h
      have k1 := dec_of_digOk h1
      have k2 := dec_of_digOk h2
      have p1 : 0 ≤ valD w1 := (valD_bd w1.length w1 rfl (by unfold digOk at h1; simp only [Bool.and_eq_true] at h1; exact h1.2)).1
      have p2 : 0 ≤ valD w2 := (valD_bd w2.length w2 rfl (by unfold digOk at h2; simp only [Bool.and_eq_true] at h2; exact h2.2)).1
      refine ⟨?_, p1, p2⟩
      have hne : l ≠ [] := by rintro rfl; cases hl
      have hg : l.getLast hne = 10 := by rw [List.getLast?_eq_some_getLast hne] at hl; exact Option.some.inj hl
      rw [← List.dropLast_concat_getLast hne, hg, ← hj]
      unfold bodyX decI
      simp only [k1, k2, h0, joinC]
    · rw [if_neg hw] at h; cases h
  · rw [if_neg hl] at h; cases h
/-- whatever is parsed is printed as it was. -/
theorem print_parse {L : List UInt8} (h : badAt (linesL L) = none) : (accB (brsOf (linesL L))).data.toList = L := by
  have hf := flat_lines L
  have hall : ∀ l ∈ linesL L, ∃ x, lineP l = some x := by
    unfold badAt at h
    rw [List.findIdx?_eq_none_iff] at h
    intro l hl
    have := h l hl
    cases hp : lineP l with
    | none => rw [hp] at this; cases this
    | some x => exact ⟨x, rfl⟩
  conv => rhs; rw [← hf]
  rw [accB_data]
  unfold brsOf
  generalize linesL L = ll at hall
  clear hf h
  induction ll with
  | nil => rfl
  | cons l t ih =>
    obtain ⟨x, hx⟩ := hall l (List.mem_cons_self ..)
    rw [List.filterMap_cons, hx]
    simp only [List.map_cons, List.flatten_cons]
    obtain ⟨e, h1, h2⟩ := line_of hx
    rw [ih (fun y hy => hall y (List.mem_cons_of_mem _ hy)), lineB_data h1 h2, ← e]
/-- a text without its last byte. -/
theorem parse_short (ls : List (Int × Int)) (h : ∀ x ∈ ls, brE x = 0) (h0 : 0 < ls.length) : badAt (linesL (accB ls).data.toList.dropLast) = some (ls.length - 1) := by
  obtain ⟨t, x, rfl⟩ : ∃ t x, ls = t ++ [x] := ⟨ls.dropLast, ls.getLast (by intro e; rw [e] at h0; cases h0), (List.dropLast_concat_getLast _).symm⟩
  have hx := brE_zero (h x (List.mem_append_right _ (List.mem_singleton.2 rfl)))
  have hd : (accB (t ++ [x])).data.toList.dropLast = (accB t).data.toList ++ bodyX x := by
    rw [accB_data, accB_data, List.map_append, List.flatten_append]
    simp only [List.map_cons, List.map_nil, List.flatten_cons, List.flatten_nil, List.append_nil]
    rw [lineB_data hx.1.1 hx.2.1, ← List.append_assoc, List.dropLast_concat]
  have hs : splitC 10 ((accB t).data.toList ++ bodyX x) = t.map bodyX ++ [bodyX x] := by
    have ht := fun y (hy : y ∈ t) => h y (List.mem_append_left _ hy)
    rw [accB_data]
    clear hd h0 h
    induction t with
    | nil => exact splitC_none 10 _ (body_free x)
    | cons y t ih =>
      have hb := brE_zero (ht y (List.mem_cons_self ..))
      rw [List.map_cons, List.flatten_cons, lineB_data hb.1.1 hb.2.1, List.append_assoc, List.append_assoc, List.singleton_append, splitC_hit 10 _ _ (body_free y), ih (fun z hz => ht z (List.mem_cons_of_mem _ hz))]
      rfl
  rw [hd]
  have hne : bodyX x ≠ [] := by unfold bodyX; simp
  have hl : linesL ((accB t).data.toList ++ bodyX x) = (t.map bodyX).map (· ++ [10]) ++ (if bodyX x = [] then [] else [bodyX x]) := by
    unfold linesL
    simp only [hs, List.dropLast_concat, List.getLast_concat]
  have := bad_lastP hl (body_free x) hne (fun q hq => by
    obtain ⟨y, hy, rfl⟩ := List.mem_map.1 hq
    have hb := brE_zero (h y (List.mem_append_left _ hy))
    unfold brPP
    rw [brW_body (by omega) (by omega)]; simp)
  rw [this]
  simp
end

section
set_option linter.unusedSimpArgs false
set_option linter.unusedVariables false
open Go.RowKit

set_option maxRecDepth 100000 in
set_option maxHeartbeats 1000000 in
theorem CheckPatternR_any (l : List Int) (w : World) (hl : l.length = 12) :
    Calls Tryz.prog 7 #[.agg (ia l)] w fun e w' => e = .returned (.int .i64 (patE l)) ∧ Below w.heap.size w w' := by
  obtain ⟨M, hM⟩ : ∃ M, M = l.map (fun n => withinE n (-100) 100) := ⟨_, rfl⟩
  have hMl : M.length = 12 := by rw [hM, List.length_map, hl]
  have hMg : ∀ k, k < 12 → M[k]?.getD 0 = withinE (l[k]?.getD 0) (-100) 100 := fun k hk => by
    rw [hM, List.getElem?_map, List.getElem?_eq_getElem (by omega)]; rfl
  have hE0 : patE l = firstE M := by rw [hM]; rfl
  obtain ⟨E, hE⟩ : ∃ E, E = patE l := ⟨_, rfl⟩
  rw [← hE]
  rw [hE0] at hE
  have HE := Lib.hid hE
  have HM := Lib.hid hMl
  have HG := Lib.hid hMg
  clear hM hMl hMg hE0 hE
  go_enter Tryz.func7, Tryz.ntmps7
  go_upto_region 1 with fail
  obtain ⟨W1, hW1⟩ : ∃ v, v = World.alloc w (Obj.cells (ia l) 22) := ⟨_, rfl⟩
  have kW1 : Below w.heap.size w W1 := by rw [hW1]; exact below_new _ _
  have iW1 : BlkI W1 (w.heap.size) 22 l := by rw [hW1]; exact BlkI.new _ _ _
  have sW1 : W1.heap.size = w.heap.size + 1 := by rw [hW1]; simp
  rw [← hW1]
  clear hW1
  have i1 := iW1
  have hB := kW1
  clear iW1 kW1
  go_wp2_with fail
  go_loopw [3] (fun i wr => ∃ k : Nat, k ≤ 12 ∧ i = .int .i64 k ∧ firstE (M.take k) = 0 ∧ BlkI wr w.heap.size 22 l ∧ Below w.heap.size w wr) (fun i _ => 12 - (intOf i).toNat)
  case atStart => exact ⟨0, by omega, rfl, rfl, i1, hB⟩
  case round =>
    clear i1 hB
    obtain ⟨k, hk, rfl, hf, i1, hB⟩ := hrel
    by_cases hlt : k < 12
    · have d1 : (k : Int) < 12 := by omega
      have c0 := i1.cell (j := k) (by omega)
      have hs := firstE_take_succ M k (by rw [HM.out]; exact hlt) hf
      rw [HG.out k hlt] at hs
      generalize l[k]?.getD 0 = x at c0 hs
      have R1 := Lib.hid (fun W => CheckRange_any x (-100) 100 W)
      generalize withinE x (-100) 100 = px at R1 hs
      have HS := Lib.hid hs
      clear hs hf
      go_wp2_with fail
      refine (R1.out wr).mono ?_
      rintro e wr ⟨rfl, rfl⟩
      by_cases hp : px = 0
      · subst hp
        go_wp2_with fail
        go_roundw
        case rel => exact ⟨k + 1, by omega, by go_num, HS.out, i1, hB⟩
        case measure => simp [intOf]; omega
      · have z : (px != 0) = true := by rw [bne_iff_ne]; exact hp
        obtain rfl : E = px := by rw [HE.out, firstE_of_take M (k + 1) (by rw [HS.out]; exact hp), HS.out]
        go_wp2
        go_ret
        exact ⟨rfl, hB⟩
    · obtain rfl : k = 12 := by omega
      obtain rfl : E = 0 := by rw [HE.out, ← hf, List.take_of_length_le (by rw [HM.out]; exact Nat.le_refl _)]
      clear hf
      go_wp2
      go_ret
      exact ⟨rfl, hB⟩
theorem patE_rng {l : List Int} (h : patE l = 0) : ∀ x ∈ l, -100 ≤ x ∧ x ≤ 100 := fun x hx => by
  unfold patE allE at h
  have h1 := firstE_mapOk h x hx
  unfold withinE at h1
  by_cases hc : x < -100 ∨ x > 100
  · rw [if_pos hc] at h1; cases h1
  · omega
/-- Parse's answer: an error, or a filter whose text it is. -/
theorem parse_back (s : ByteArray) : (∃ n e0 : Int, e0 ≠ 0 ∧ ∀ e W', ParsePost s.data.toList e W' → e = .returned (.tuple #[.agg #[.slice none 0 0], .int .i64 n, .int .i64 e0])) ∨
    (∃ bl : List (Int × Int), fltE bl = 0 ∧ s = accB bl ∧ ∀ e W', ParsePost s.data.toList e W' → ∃ u, e = .returned (.tuple #[.agg #[u], .int .i64 0, .int .i64 0]) ∧ Pairs W' u bl) := by
  unfold ParsePost
  by_cases hlt : 4096 < s.data.toList.length
  · exact .inl ⟨0, 26, by decide, fun e W' h => by rw [if_pos hlt] at h; exact h⟩
  · cases hb : badAt (linesL s.data.toList) with
    | some n => exact .inl ⟨n, 25, by decide, fun e W' h => by rw [if_neg hlt] at h; exact h⟩
    | none =>
      by_cases hz : fltE (brsOf (linesL s.data.toList)) = 0
      · exact .inr ⟨brsOf (linesL s.data.toList), hz, (baEq (print_parse hb)).symm, fun e W' h => by rw [if_neg hlt] at h; simp only [hz, if_true] at h; exact h⟩
      · exact .inl ⟨_, _, hz, fun e W' h => by rw [if_neg hlt] at h; simp only [hz, if_false] at h; exact h⟩
theorem parse_own (ls : List (Int × Int)) (hz : fltE ls = 0) (e : Ending) (W' : World) (h : ParsePost (accB ls).data.toList e W') : ∃ u, e = .returned (.tuple #[.agg #[u], .int .i64 0, .int .i64 0]) ∧ Pairs W' u ls := by
  obtain ⟨⟨h0, h3⟩, hb⟩ := fltE_zero hz
  obtain ⟨p1, p2⟩ := parse_print ls hb
  have hs := accB_len ls hb
  have hs' : (accB ls).data.toList.length = (accB ls).size := data_len _
  unfold ParsePost at h
  rw [if_neg (by omega), p1] at h
  simp only [p2, hz, if_true] at h
  exact h
theorem cut_last (b : ByteArray) (m : Nat) (h : b.size = m + 1) : (b.extract 0 m).data.toList = b.data.toList.dropLast := by
  have hs : b.data.toList.length = b.size := data_len _
  rw [ByteArray.data_extract, Array.toList_extract, List.dropLast_eq_take, hs, h]
  simp [List.extract]
theorem accB_pos (ls : List (Int × Int)) (hz : fltE ls = 0) : ∃ m, (accB ls).size = m + 1 := by
  obtain ⟨⟨h0, h3⟩, hb⟩ := fltE_zero hz
  have hs := split_print ls hb
  have hs' : (accB ls).data.toList.length = (accB ls).size := data_len _
  rcases Nat.eq_zero_or_pos (accB ls).size with h | h
  · have hn : (accB ls).data.toList = [] := List.length_eq_zero_iff.1 (by omega)
    rw [hn] at hs
    have h9 := congrArg List.length hs
    rw [List.length_append, List.length_map] at h9
    have h1 : (splitC 10 ([] : List UInt8)).length = 1 := rfl
    rw [h1] at h9
    simp only [List.length_cons, List.length_nil] at h9
    omega
  · exact ⟨(accB ls).size - 1, by omega⟩
theorem parse_cut (ls : List (Int × Int)) (hz : fltE ls = 0) (t : ByteArray) (ht : t.data.toList = (accB ls).data.toList.dropLast) (e : Ending) (W' : World) (h : ParsePost t.data.toList e W') : e = .returned (.tuple #[.agg #[.slice none 0 0], .int .i64 ((ls.length - 1 : Nat) : Int), .int .i64 25]) := by
  obtain ⟨⟨h0, h3⟩, hb⟩ := fltE_zero hz
  have hs := accB_len ls hb
  have hs' : (accB ls).data.toList.length = (accB ls).size := data_len _
  unfold ParsePost at h
  rw [ht, if_neg (by rw [List.length_dropLast]; omega), parse_short ls hb h0] at h
  exact h
set_option maxRecDepth 100000 in
set_option maxHeartbeats 8000000 in
theorem bck_law (v0 : Value) (ls : List (Int × Int)) (l : List Int) (s : ByteArray) (w : World) (hv : Pairs w v0 ls) (h12 : l.length = 12) (hp : Powers w) (hP : Pows w) (hM : MaxL w) :
    Calls Tryz.prog 6 #[.agg #[v0], .agg (ia l), .string s] w fun e w' => e = .returned (.bool true) ∧ Below w.heap.size w w' := by
  have TAW := Lib.hid (fun W hP hQ => awake_any W hP hQ)
  have HW := Lib.hid hp
  have HP := Lib.hid hP
  have HM := Lib.hid hM
  have HV := Lib.hid hv
  have TSH := Lib.hid (fun W (h : Pairs W v0 ls) => ShortR_any v0 ls W h)
  obtain ⟨n, hn⟩ : ∃ n, n = s.size := ⟨_, rfl⟩
  have hn' : s.size = n := hn.symm
  obtain ⟨xa, ca, rfl, _, _⟩ := id hv
  clear hp hP hM hv hn
  go_enter Tryz.func6, Tryz.ntmps6
  go_upto_region 1 with fail
  obtain ⟨W1, hW1⟩ : ∃ v, v = World.alloc w (Obj.cells #[.slice xa ls.length ca] 67) := ⟨_, rfl⟩
  have kW1 : Below w.heap.size w W1 := by rw [hW1]; exact below_new _ _
  have iW1 : Blk W1 (w.heap.size) 67 [.slice xa ls.length ca] := by rw [hW1]; exact Blk.new _ _ _
  have sW1 : W1.heap.size = w.heap.size + 1 := by rw [hW1]; simp
  rw [← hW1]
  clear hW1
  obtain ⟨W2, hW2⟩ : ∃ v, v = World.alloc W1 (Obj.cells (ia l) 22) := ⟨_, rfl⟩
  have kW2 : Below W1.heap.size W1 W2 := by rw [hW2]; exact below_new _ _
  have iW2 : BlkI W2 (w.heap.size + 1) 22 l := by rw [hW2, ← sW1]; exact BlkI.new _ _ _
  have sW2 : W2.heap.size = w.heap.size + 1 + 1 := by rw [hW2]; simp [sW1]
  rw [← hW2]
  clear hW2
  replace iW1 := iW1.carry kW2
  have hA := bthen kW1 kW2
  have iP := iW2
  clear kW1 kW2 sW1 sW2 iW2
  have c0 := iW1.cell (j := 0) (v := .slice xa ls.length ca) rfl
  go_wp2_with fail
  refine (TSH.out W2 (HV.out.carry hA)).mono ?_
  rintro e W3 ⟨rfl, hb2⟩
  have iF := iW1.carry hb2
  replace iP := Blk.carry iP hb2
  replace hA := bthen hA hb2
  clear c0 iW1 hb2 TSH
  by_cases hs4 : (ls.length : Int) ≤ 4
  · rw [decide_eq_true hs4]
    have hs4n : ls.length ≤ 4 := by omega
    have cF := iF.cell (j := 0) (v := .slice xa ls.length ca) rfl
    go_wp2_with fail
    refine (CheckFilterR_any _ ls W3 (HV.out.carry hA) (by omega)).mono ?_
    rintro e W4 ⟨rfl, hb⟩
    replace hA := bthen hA hb
    replace iF := iF.carry hb
    replace iP := Blk.carry iP hb
    clear hb cF
    by_cases hz : fltE ls = 0
    · rw [hz]
      have HZ := Lib.hid hz
      clear hz
      have hld := load12 h12 iP
      go_wp2_with (refine wpList_loadG (by rfl) _ _ rfl hld ?_)
      refine (CheckPatternR_any l W4 h12).mono ?_
      rintro e W5 ⟨rfl, hb⟩
      replace hA := bthen hA hb
      replace iF := iF.carry hb
      replace iP := Blk.carry iP hb
      clear hb hld
      by_cases hpz : patE l = 0
      · rw [hpz]
        have HPZ := Lib.hid hpz
        clear hpz
        by_cases hA1 : (n : Int) ≤ 200
        · have d1 : ¬ 200 < (n : Int) := by omega
          have hld := load12 h12 iP
          go_wp2_with (refine wpList_load rfl _ _ rfl hld ?_)
          obtain ⟨c, hc⟩ : ∃ c : Nat, 1 + (n : Int) % 3 = (c : Int) := ⟨1 + n % 3, by omega⟩
          have hc1 : 1 ≤ c := by omega
          have hc3 : c ≤ 3 := by omega
          rw [hc]
          have HC := Lib.hid hc
          clear hc hld
          refine (Record_any l c W5 h12 HPZ.out hc1 hc3).mono ?_
          rintro e W6 ⟨⟨g, rfl, hg⟩, hb⟩
          replace hA := bthen hA hb
          replace iF := iF.carry hb
          replace iP := Blk.carry iP hb
          clear hb
          have hrn : (reps c (l.map flV)).length = 12 * c := reps_len c _ (by rw [List.length_map, h12])
          have t1 := samples_any g (12 * c) (reps c (l.map flV)) W6 (by omega) (by omega) (fun v hv => by
            rw [← repsI_map] at hv
            exact flV_one _ v hv) (fun j u hj => by rw [Nat.zero_add]; exact hg.cell hj)
          rw [hrn] at t1
          have T1 := Lib.hid t1
          clear t1 hrn hg
          have v1 : IntKind.i64.wrap (12 * (c : Int)) = 12 * (c : Int) := IntWalk.i64_in _ (by omega)
          go_wp2_with fail
          refine T1.out.mono ?_
          rintro e W7 ⟨⟨u7, rfl, hu7⟩, hb⟩
          replace hA := bthen hA hb
          replace iF := iF.carry hb
          replace iP := Blk.carry iP hb
          clear hb T1
          have T2 := Lib.hid (Levels_any u7 l c W7 h12 (patE_rng HPZ.out) hc1 hc3 hu7)
          clear hu7
          go_wp2_with fail
          refine T2.out.mono ?_
          rintro e W8 ⟨rfl, hb⟩
          replace hA := bthen hA hb
          replace iF := iF.carry hb
          replace iP := Blk.carry iP hb
          clear hb T2 v1
          go_upto_region 8 with (refine wpList_storeA rfl _ _ _ rfl W8.heap.size l (List.replicate 12 0) rfl rfl (BlkI.new W8 22 (List.replicate 12 0)) (by rw [h12]; rfl) (by rw [h12]; exact Tryz.infoA12) ?_)
          obtain ⟨W9, hW9⟩ : ∃ v, v = World.setRow (World.alloc W8 (Obj.cells #[.int .i64 0, .int .i64 0, .int .i64 0, .int .i64 0, .int .i64 0, .int .i64 0, .int .i64 0, .int .i64 0, .int .i64 0, .int .i64 0, .int .i64 0, .int .i64 0] 22)) W8.heap.size (ia (l)) := ⟨_, rfl⟩
          have kW9 : Below W8.heap.size W8 W9 := by rw [hW9]; exact zrow_below _ _ _ _
          have iW9 : BlkI W9 W8.heap.size 22 (l) := by rw [hW9]; exact zrow_blk W8 _ (List.replicate 12 0) _
          rw [← hW9]
          clear hW9
          replace hA := bthen hA kW9
          replace iF := iF.carry kW9
          replace iP := Blk.carry iP kW9
          have iL := iW9
          clear kW9 iW9
          obtain ⟨G9, hG9⟩ : ∃ G, G = W8.heap.size := ⟨_, rfl⟩
          rw [← hG9] at iL ⊢
          clear hG9
          have cF := iF.cell (j := 0) (v := .slice xa ls.length ca) rfl
          go_wp2_with fail
          refine (given_any _ ls W9 (HV.out.carry hA) (by omega)).mono ?_
          rintro e V1 ⟨⟨u, rfl, hu⟩, hb⟩
          replace hA := bthen hA hb
          replace iF := iF.carry hb
          replace iP := Blk.carry iP hb
          replace iL := Blk.carry iL hb
          clear hb cF
          have t3 := Print_any u ls V1 hu (by omega) (HP.out.carry hA)
          rw [HZ.out, sOr, if_pos rfl, ← accB_all] at t3
          have T3 := Lib.hid t3
          clear t3 hu
          obtain ⟨pt, hpt⟩ : ∃ t, t = accB ls := ⟨_, rfl⟩
          rw [← hpt] at T3
          go_wp2_with fail
          refine T3.out.mono ?_
          rintro e V2 ⟨rfl, hb⟩
          replace hA := bthen hA hb
          replace iF := iF.carry hb
          replace iP := Blk.carry iP hb
          replace iL := Blk.carry iL hb
          clear hb T3
          have hsz : pt.size ≤ 60 * ls.length := by rw [hpt]; exact accB_len ls (fltE_zero HZ.out).2
          have HPT := Lib.hid hpt
          have HSZ := Lib.hid hsz
          clear hpt hsz
          go_wp2_with fail
          refine (Parse_any pt V2 (by have := HSZ.out; omega) (HM.out.carry hA)).mono ?_
          rintro e V3 ⟨hpp, hb⟩
          rw [HPT.out] at hpp
          obtain ⟨x, rfl, hx⟩ := parse_own ls HZ.out e V3 hpp
          replace hA := bthen hA hb
          replace iF := iF.carry hb
          replace iP := Blk.carry iP hb
          replace iL := Blk.carry iL hb
          clear hb hpp
          obtain ⟨ya, yc, rfl, _⟩ := id hx
          have HX := Lib.hid hx
          clear hx
          go_upto_region 10 with fail
          obtain ⟨V4, hV4⟩ : ∃ v, v = World.alloc V3 (Obj.cells #[.slice ya ls.length yc] 73) := ⟨_, rfl⟩
          have kV4 : Below V3.heap.size V3 V4 := by rw [hV4]; exact below_new _ _
          have iV4 : Blk V4 (V3.heap.size) 73 [.slice ya ls.length yc] := by rw [hV4]; exact Blk.new _ _ _
          have sV4 : V4.heap.size = V3.heap.size + 1 := by rw [hV4]; simp
          rw [← hV4]
          clear hV4
          replace hA := bthen hA kV4
          replace iF := iF.carry kV4
          replace iP := Blk.carry iP kV4
          replace iL := Blk.carry iL kV4
          have HX4 := Lib.hid (HX.out.carry kV4)
          have c1 := iV4.cell (j := 0) (v := .slice ya ls.length yc) rfl
          have c2 := iF.cell (j := 0) (v := .slice xa ls.length ca) rfl
          have HQ := Lib.hid (And.intro c1 c2)
          have HAA := Lib.hid hA
          have HPL := Lib.hid (And.intro iP iL)
          have h0 := Below.refl V4.heap.size V4
          have HSP := Lib.hid (show (splitC 10 pt.data.toList).length = ls.length + 1 by rw [HPT.out, split_print ls (fltE_zero HZ.out).2, List.length_append, List.length_map]; rfl)
          have he := fun W => eqI12 l h12 W
          have w2 : IntKind.i64.wrap ((ls.length : Int) + 1) = (ls.length : Int) + 1 := IntWalk.i64_in _ (by omega)
          have hszp : pt.size ≤ 1000000 := by have := HSZ.out; omega
          clear c1 c2 iF iP iL iV4 kV4 sV4 hA HX
          refine wp_region_held_drew (S := (fun W => (BlkI W G9 22 l ∧ BlkI W (w.heap.size + 1) 22 l) ∧ W.cell? ⟨V3.heap.size, 0, none⟩ = some (.slice ya ls.length yc) ∧ W.cell? ⟨w.heap.size, 0, none⟩ = some (.slice xa ls.length ca))) (by kernel_rfl) ⟨⟨Blk.carry HPL.out.2 h0.drew, Blk.carry HPL.out.1 h0.drew⟩, cellb HQ.out.1 h0.drew, cellb HQ.out.2 h0.drew⟩ (fun hHeld0 => ?_)
          obtain ⟨wzd, hwz⟩ : ∃ v, v = V4.drew := ⟨_, rfl⟩
          rw [← hwz] at hHeld0 ⊢
          have hbzd : Below V4.heap.size V4 wzd := by rw [hwz]; exact h0.drew
          have hlzd : Below V4.heap.size V4 wzd := by rw [hwz]; exact (Below.refl _ _).drew
          clear hwz hlzd
          refine wpAnyH_take (i := 0) (oi := { dst := some 81, op := Op.move (Operand.tmp 11), type := 31, pos := "law.go:488", after := #[], guard := none }) (v := ?_) rfl (by kernel_rfl) (by kernel_rfl) (by kernel_rfl) (fun _ _ _ h => h) (Or.inl ⟨by rfl, ?_⟩) (by assumption) ?_
          rotate_left
          · (intro w hSw; (try dsimp only at hSw); go_simp); (try with_reducible rfl)
          try simp only [Act.put, List.setIfInBounds_toArray, List.set_cons_zero, List.set_cons_succ]
          refine wpAnyH_take (i := 1) (oi := { dst := some 82, op := Op.binOp BinOp.neq 31 (Operand.tmp 81) (Operand.const (Value.int IntKind.i64 0)) 31, type := 4, pos := "law.go:488", after := #[{ on := 0, ground := Ground.data }], guard := none }) (v := ?_) rfl (by kernel_rfl) (by kernel_rfl) (by kernel_rfl) (fun _ _ _ h => h) (Or.inl ⟨by rfl, ?_⟩) (by assumption) ?_
          rotate_left
          · (intro w hSw; (try dsimp only at hSw); go_simp); (try with_reducible rfl)
          try simp only [Act.put, List.setIfInBounds_toArray, List.set_cons_zero, List.set_cons_succ]
          refine wpAnyH_take (i := 2) (oi := { dst := some 83, op := Op.move (Operand.tmp 82), type := 4, pos := "law.go:488", after := #[{ on := 1, ground := Ground.data }], guard := none }) (v := ?_) rfl (by kernel_rfl) (by kernel_rfl) (by kernel_rfl) (fun _ _ _ h => h) (Or.inl ⟨by rfl, ?_⟩) (by assumption) ?_
          rotate_left
          · (intro w hSw; (try dsimp only at hSw); go_simp); (try with_reducible rfl)
          try simp only [Act.put, List.setIfInBounds_toArray, List.set_cons_zero, List.set_cons_succ]
          refine wpAnyH_take (i := 3) (oi := { dst := some 84, op := Op.load 22 (Operand.tmp 10), type := 22, pos := "law.go:488", after := #[{ on := 2, ground := Ground.guard }], guard := some (2, false) }) (v := ?_) rfl (by kernel_rfl) (by kernel_rfl) (by kernel_rfl) (fun _ _ _ h => h) (Or.inl ⟨by rfl, ?_⟩) (by assumption) ?_
          rotate_left
          · (intro w hSw; (try dsimp only at hSw); refine Eq.trans (exec_load rfl (load12 h12 hSw.1.1)) ?_); (try with_reducible rfl)
          try simp only [Act.put, List.setIfInBounds_toArray, List.set_cons_zero, List.set_cons_succ]
          refine wpAnyH_take (i := 4) (oi := { dst := some 85, op := Op.load 22 (Operand.tmp 4), type := 22, pos := "law.go:488", after := #[{ on := 2, ground := Ground.guard }], guard := some (2, false) }) (v := ?_) rfl (by kernel_rfl) (by kernel_rfl) (by kernel_rfl) (fun _ _ _ h => h) (Or.inl ⟨by rfl, ?_⟩) (by assumption) ?_
          rotate_left
          · (intro w hSw; (try dsimp only at hSw); refine Eq.trans (exec_load rfl (load12 h12 hSw.1.2)) ?_); (try with_reducible rfl)
          try simp only [Act.put, List.setIfInBounds_toArray, List.set_cons_zero, List.set_cons_succ]
          refine wpAnyH_take (i := 5) (oi := { dst := some 86, op := Op.binOp BinOp.neq 22 (Operand.tmp 84) (Operand.tmp 85) 22, type := 4, pos := "law.go:488", after := #[{ on := 3, ground := Ground.data }, { on := 4, ground := Ground.data }, { on := 2, ground := Ground.guard }], guard := some (2, false) }) (v := ?_) rfl (by kernel_rfl) (by kernel_rfl) (by kernel_rfl) (fun _ _ _ h => h) (Or.inl ⟨by rfl, ?_⟩) (by assumption) ?_
          rotate_left
          · (intro w hSw; (try dsimp only at hSw); go_simp); (try with_reducible rfl)
          try simp only [Act.put, List.setIfInBounds_toArray, List.set_cons_zero, List.set_cons_succ]
          refine wpAnyH_take (i := 6) (oi := { dst := some 87, op := Op.pick (Operand.tmp 83) (Operand.const (Value.bool true)) (Operand.tmp 86), type := 4, pos := "law.go:488", after := #[{ on := 2, ground := Ground.data }, { on := 5, ground := Ground.data }], guard := none }) (v := ?_) rfl (by kernel_rfl) (by kernel_rfl) (by kernel_rfl) (fun _ _ _ h => h) (Or.inl ⟨by rfl, ?_⟩) (by assumption) ?_
          rotate_left
          · (intro w hSw; (try dsimp only at hSw); go_simp); (try with_reducible rfl)
          try simp only [Act.put, List.setIfInBounds_toArray, List.set_cons_zero, List.set_cons_succ]
          refine wpAnyH_take (i := 7) (oi := { dst := some 88, op := Op.move (Operand.tmp 87), type := 4, pos := "law.go:488", after := #[{ on := 6, ground := Ground.data }, { on := 2, ground := Ground.chain }], guard := none }) (v := ?_) rfl (by kernel_rfl) (by kernel_rfl) (by kernel_rfl) (fun _ _ _ h => h) (Or.inl ⟨by rfl, ?_⟩) (by assumption) ?_
          rotate_left
          · (intro w hSw; (try dsimp only at hSw); go_simp); (try with_reducible rfl)
          try simp only [Act.put, List.setIfInBounds_toArray, List.set_cons_zero, List.set_cons_succ]
          refine wpAnyH_take (i := 8) (oi := { dst := some 89, op := Op.move (Operand.tmp 13), type := 31, pos := "law.go:488", after := #[{ on := 7, ground := Ground.guard }], guard := some (7, false) }) (v := ?_) rfl (by kernel_rfl) (by kernel_rfl) (by kernel_rfl) (fun _ _ _ h => h) (Or.inl ⟨by rfl, ?_⟩) (by assumption) ?_
          rotate_left
          · (intro w hSw; (try dsimp only at hSw); go_simp); (try with_reducible rfl)
          try simp only [Act.put, List.setIfInBounds_toArray, List.set_cons_zero, List.set_cons_succ]
          refine wpAnyH_take (i := 9) (oi := { dst := some 90, op := Op.binOp BinOp.neq 31 (Operand.tmp 89) (Operand.const (Value.int IntKind.i64 0)) 31, type := 4, pos := "law.go:488", after := #[{ on := 8, ground := Ground.data }, { on := 7, ground := Ground.guard }], guard := some (7, false) }) (v := ?_) rfl (by kernel_rfl) (by kernel_rfl) (by kernel_rfl) (fun _ _ _ h => h) (Or.inl ⟨by rfl, ?_⟩) (by assumption) ?_
          rotate_left
          · (intro w hSw; (try dsimp only at hSw); go_simp); (try with_reducible rfl)
          try simp only [Act.put, List.setIfInBounds_toArray, List.set_cons_zero, List.set_cons_succ]
          refine wpAnyH_take (i := 10) (oi := { dst := some 91, op := Op.pick (Operand.tmp 88) (Operand.const (Value.bool true)) (Operand.tmp 90), type := 4, pos := "law.go:488", after := #[{ on := 7, ground := Ground.data }, { on := 9, ground := Ground.data }], guard := none }) (v := ?_) rfl (by kernel_rfl) (by kernel_rfl) (by kernel_rfl) (fun _ _ _ h => h) (Or.inl ⟨by rfl, ?_⟩) (by assumption) ?_
          rotate_left
          · (intro w hSw; (try dsimp only at hSw); go_simp); (try with_reducible rfl)
          try simp only [Act.put, List.setIfInBounds_toArray, List.set_cons_zero, List.set_cons_succ]
          refine wpAnyH_take (i := 11) (oi := { dst := some 92, op := Op.move (Operand.tmp 91), type := 4, pos := "law.go:488", after := #[{ on := 10, ground := Ground.data }, { on := 7, ground := Ground.chain }], guard := none }) (v := ?_) rfl (by kernel_rfl) (by kernel_rfl) (by kernel_rfl) (fun _ _ _ h => h) (Or.inl ⟨by rfl, ?_⟩) (by assumption) ?_
          rotate_left
          · (intro w hSw; (try dsimp only at hSw); go_simp); (try with_reducible rfl)
          try simp only [Act.put, List.setIfInBounds_toArray, List.set_cons_zero, List.set_cons_succ]
          refine wpAnyH_take (i := 12) (oi := { dst := some 93, op := Op.move (Operand.tmp 16), type := 31, pos := "law.go:488", after := #[{ on := 11, ground := Ground.guard }], guard := some (11, false) }) (v := ?_) rfl (by kernel_rfl) (by kernel_rfl) (by kernel_rfl) (fun _ _ _ h => h) (Or.inl ⟨by rfl, ?_⟩) (by assumption) ?_
          rotate_left
          · (intro w hSw; (try dsimp only at hSw); go_simp); (try with_reducible rfl)
          try simp only [Act.put, List.setIfInBounds_toArray, List.set_cons_zero, List.set_cons_succ]
          refine wpAnyH_take (i := 13) (oi := { dst := some 94, op := Op.binOp BinOp.neq 31 (Operand.tmp 93) (Operand.const (Value.int IntKind.i64 0)) 31, type := 4, pos := "law.go:488", after := #[{ on := 12, ground := Ground.data }, { on := 11, ground := Ground.guard }], guard := some (11, false) }) (v := ?_) rfl (by kernel_rfl) (by kernel_rfl) (by kernel_rfl) (fun _ _ _ h => h) (Or.inl ⟨by rfl, ?_⟩) (by assumption) ?_
          rotate_left
          · (intro w hSw; (try dsimp only at hSw); go_simp); (try with_reducible rfl)
          try simp only [Act.put, List.setIfInBounds_toArray, List.set_cons_zero, List.set_cons_succ]
          refine wpAnyH_take (i := 14) (oi := { dst := some 95, op := Op.pick (Operand.tmp 92) (Operand.const (Value.bool true)) (Operand.tmp 94), type := 4, pos := "law.go:488", after := #[{ on := 11, ground := Ground.data }, { on := 13, ground := Ground.data }], guard := none }) (v := ?_) rfl (by kernel_rfl) (by kernel_rfl) (by kernel_rfl) (fun _ _ _ h => h) (Or.inl ⟨by rfl, ?_⟩) (by assumption) ?_
          rotate_left
          · (intro w hSw; (try dsimp only at hSw); go_simp); (try with_reducible rfl)
          try simp only [Act.put, List.setIfInBounds_toArray, List.set_cons_zero, List.set_cons_succ]
          refine wpAnyH_take (i := 15) (oi := { dst := some 96, op := Op.move (Operand.tmp 95), type := 4, pos := "law.go:488", after := #[{ on := 14, ground := Ground.data }, { on := 11, ground := Ground.chain }], guard := none }) (v := ?_) rfl (by kernel_rfl) (by kernel_rfl) (by kernel_rfl) (fun _ _ _ h => h) (Or.inl ⟨by rfl, ?_⟩) (by assumption) ?_
          rotate_left
          · (intro w hSw; (try dsimp only at hSw); go_simp); (try with_reducible rfl)
          try simp only [Act.put, List.setIfInBounds_toArray, List.set_cons_zero, List.set_cons_succ]
          refine wpAnyH_take (i := 16) (oi := { dst := some 97, op := Op.move (Operand.tmp 15), type := 3, pos := "law.go:488", after := #[{ on := 15, ground := Ground.guard }], guard := some (15, false) }) (v := ?_) rfl (by kernel_rfl) (by kernel_rfl) (by kernel_rfl) (fun _ _ _ h => h) (Or.inl ⟨by rfl, ?_⟩) (by assumption) ?_
          rotate_left
          · (intro w hSw; (try dsimp only at hSw); go_simp); (try with_reducible rfl)
          try simp only [Act.put, List.setIfInBounds_toArray, List.set_cons_zero, List.set_cons_succ]
          refine wpAnyH_take (i := 17) (oi := { dst := some 98, op := Op.binOp BinOp.neq 3 (Operand.tmp 97) (Operand.const (Value.int IntKind.i64 0)) 3, type := 4, pos := "law.go:488", after := #[{ on := 16, ground := Ground.data }, { on := 15, ground := Ground.guard }], guard := some (15, false) }) (v := ?_) rfl (by kernel_rfl) (by kernel_rfl) (by kernel_rfl) (fun _ _ _ h => h) (Or.inl ⟨by rfl, ?_⟩) (by assumption) ?_
          rotate_left
          · (intro w hSw; (try dsimp only at hSw); go_simp); (try with_reducible rfl)
          try simp only [Act.put, List.setIfInBounds_toArray, List.set_cons_zero, List.set_cons_succ]
          refine wpAnyH_take (i := 18) (oi := { dst := some 99, op := Op.pick (Operand.tmp 96) (Operand.const (Value.bool true)) (Operand.tmp 98), type := 4, pos := "law.go:488", after := #[{ on := 15, ground := Ground.data }, { on := 17, ground := Ground.data }], guard := none }) (v := ?_) rfl (by kernel_rfl) (by kernel_rfl) (by kernel_rfl) (fun _ _ _ h => h) (Or.inl ⟨by rfl, ?_⟩) (by assumption) ?_
          rotate_left
          · (intro w hSw; (try dsimp only at hSw); go_simp); (try with_reducible rfl)
          try simp only [Act.put, List.setIfInBounds_toArray, List.set_cons_zero, List.set_cons_succ]
          refine wpAnyH_take (i := 19) (oi := { dst := some 100, op := Op.move (Operand.tmp 99), type := 4, pos := "law.go:488", after := #[{ on := 18, ground := Ground.data }, { on := 15, ground := Ground.chain }], guard := none }) (v := ?_) rfl (by kernel_rfl) (by kernel_rfl) (by kernel_rfl) (fun _ _ _ h => h) (Or.inl ⟨by rfl, ?_⟩) (by assumption) ?_
          rotate_left
          · (intro w hSw; (try dsimp only at hSw); go_simp); (try with_reducible rfl)
          try simp only [Act.put, List.setIfInBounds_toArray, List.set_cons_zero, List.set_cons_succ]
          refine wpAnyH_take (i := 20) (oi := { dst := some 101, op := Op.load 73 (Operand.tmp 14), type := 73, pos := "law.go:488", after := #[{ on := 19, ground := Ground.guard }], guard := some (19, false) }) (v := ?_) rfl (by kernel_rfl) (by kernel_rfl) (by kernel_rfl) (fun _ _ _ h => h) (Or.inl ⟨by rfl, ?_⟩) (by assumption) ?_
          rotate_left
          · (intro w hSw; (try dsimp only at hSw); go_simp); (try with_reducible rfl)
          try simp only [Act.put, List.setIfInBounds_toArray, List.set_cons_zero, List.set_cons_succ]
          refine wpAnyH_take (i := 22) (oi := { dst := some 103, op := Op.load 67 (Operand.tmp 3), type := 67, pos := "law.go:488", after := #[{ on := 19, ground := Ground.guard }], guard := some (19, false) }) (v := ?_) rfl (by kernel_rfl) (by kernel_rfl) (by kernel_rfl) (fun _ _ _ h => h) (Or.inl ⟨by rfl, ?_⟩) (by assumption) ?_
          rotate_left
          · (intro w hSw; (try dsimp only at hSw); go_simp); (try with_reducible rfl)
          try simp only [Act.put, List.setIfInBounds_toArray, List.set_cons_zero, List.set_cons_succ]
          refine wpAnyH_ready (rs := [21]) (by kernel_rfl) (by simp) ?_
          refine (AllReadyH.cons (o := { dst := some 102, op := Op.call { callee := Callee.value (Operand.func 37), args := #[Operand.tmp 101], argTypes := #[73] }, type := 67, pos := "law.go:488", after := #[{ on := 20, ground := Ground.data }, { on := 19, ground := Ground.chain }, { on := 19, ground := Ground.guard }], guard := some (19, false) }) rfl (fun K hK => ?_) AllReadyH.nil)
          go_simp
          refine (told_any _ ls wzd (HX4.out.carry hbzd) (by omega)).mono ?_
          rintro e wz21 ⟨⟨u2, rfl, hu2⟩, hl⟩
          (try go_wp2_with fail)
          have hbz21 := bthen hbzd hl
          clear hl
          refine hK.out _ _ ⟨⟨Blk.carry HPL.out.2 hbz21, Blk.carry HPL.out.1 hbz21⟩, cellb HQ.out.1 hbz21, cellb HQ.out.2 hbz21⟩ (fun hHeld1 => ?_)
          clear hK K hHeld0
          try simp only [Act.put, List.setIfInBounds_toArray, List.set_cons_zero, List.set_cons_succ]
          refine wpAnyH_ready (rs := [23]) (by kernel_rfl) (by simp) ?_
          refine (AllReadyH.cons (o := { dst := some 104, op := Op.call { callee := Callee.value (Operand.func 36), args := #[Operand.tmp 102, Operand.tmp 103], argTypes := #[67, 67] }, type := 4, pos := "law.go:488", after := #[{ on := 21, ground := Ground.data }, { on := 22, ground := Ground.data }, { on := 21, ground := Ground.chain }, { on := 19, ground := Ground.guard }], guard := some (19, false) }) rfl (fun K hK => ?_) AllReadyH.nil)
          go_simp
          refine (SameR_any _ _ ls ls wz21 hu2 (HV.out.carry (bthen HAA.out hbz21)) (by omega)).mono ?_
          rintro e wz23 ⟨rfl, hl⟩
          (try go_wp2_with fail)
          have hbz23 := bthen hbz21 hl
          have hu2 := hu2.carry hl
          clear hl
          refine hK.out _ _ ⟨⟨Blk.carry HPL.out.2 hbz23, Blk.carry HPL.out.1 hbz23⟩, cellb HQ.out.1 hbz23, cellb HQ.out.2 hbz23⟩ (fun hHeld2 => ?_)
          clear hK K hHeld1
          try simp only [Act.put, List.setIfInBounds_toArray, List.set_cons_zero, List.set_cons_succ]
          refine wpAnyH_take (i := 24) (oi := { dst := some 105, op := Op.unOp UnOp.not 4 (Operand.tmp 104), type := 4, pos := "law.go:488", after := #[{ on := 23, ground := Ground.data }, { on := 19, ground := Ground.guard }], guard := some (19, false) }) (v := ?_) rfl (by kernel_rfl) (by kernel_rfl) (by kernel_rfl) (fun _ _ _ h => h) (Or.inl ⟨by rfl, ?_⟩) (by assumption) ?_
          rotate_left
          · (intro w hSw; (try dsimp only at hSw); go_simp); (try with_reducible rfl)
          try simp only [Act.put, List.setIfInBounds_toArray, List.set_cons_zero, List.set_cons_succ]
          refine wpAnyH_take (i := 25) (oi := { dst := some 106, op := Op.pick (Operand.tmp 100) (Operand.const (Value.bool true)) (Operand.tmp 105), type := 4, pos := "law.go:488", after := #[{ on := 19, ground := Ground.data }, { on := 24, ground := Ground.data }], guard := none }) (v := ?_) rfl (by kernel_rfl) (by kernel_rfl) (by kernel_rfl) (fun _ _ _ h => h) (Or.inl ⟨by rfl, ?_⟩) (by assumption) ?_
          rotate_left
          · (intro w hSw; (try dsimp only at hSw); go_simp); (try with_reducible rfl)
          try simp only [Act.put, List.setIfInBounds_toArray, List.set_cons_zero, List.set_cons_succ]
          refine wpAnyH_take (i := 26) (oi := { dst := some 107, op := Op.move (Operand.tmp 106), type := 4, pos := "law.go:488", after := #[{ on := 25, ground := Ground.data }, { on := 23, ground := Ground.chain }], guard := none }) (v := ?_) rfl (by kernel_rfl) (by kernel_rfl) (by kernel_rfl) (fun _ _ _ h => h) (Or.inl ⟨by rfl, ?_⟩) (by assumption) ?_
          rotate_left
          · (intro w hSw; (try dsimp only at hSw); go_simp); (try with_reducible rfl)
          try simp only [Act.put, List.setIfInBounds_toArray, List.set_cons_zero, List.set_cons_succ]
          refine wpAnyH_take (i := 27) (oi := { dst := some 108, op := Op.move (Operand.tmp 12), type := 9, pos := "law.go:488", after := #[{ on := 26, ground := Ground.guard }], guard := some (26, false) }) (v := ?_) rfl (by kernel_rfl) (by kernel_rfl) (by kernel_rfl) (fun _ _ _ h => h) (Or.inl ⟨by rfl, ?_⟩) (by assumption) ?_
          rotate_left
          · (intro w hSw; (try dsimp only at hSw); go_simp); (try with_reducible rfl)
          try simp only [Act.put, List.setIfInBounds_toArray, List.set_cons_zero, List.set_cons_succ]
          refine wpAnyH_take (i := 30) (oi := { dst := some 111, op := Op.fieldAddr 67 (Operand.tmp 3) 0, type := 0, pos := "law.go:488", after := #[{ on := 26, ground := Ground.guard }], guard := some (26, false) }) (v := ?_) rfl (by kernel_rfl) (by kernel_rfl) (by kernel_rfl) (fun _ _ _ h => h) (Or.inl ⟨by rfl, ?_⟩) (by assumption) ?_
          rotate_left
          · (intro w hSw; (try dsimp only at hSw); go_simp); (try with_reducible rfl)
          try simp only [Act.put, List.setIfInBounds_toArray, List.set_cons_zero, List.set_cons_succ]
          refine wpAnyH_take (i := 31) (oi := { dst := some 112, op := Op.load 65 (Operand.tmp 111), type := 65, pos := "law.go:488", after := #[{ on := 30, ground := Ground.data }, { on := 26, ground := Ground.guard }], guard := some (26, false) }) (v := ?_) rfl (by kernel_rfl) (by kernel_rfl) (by kernel_rfl) (fun _ _ _ h => h) (Or.inl ⟨by rfl, ?_⟩) (by assumption) ?_
          rotate_left
          · (intro w hSw; (try dsimp only at hSw); go_simp); (try with_reducible rfl)
          try simp only [Act.put, List.setIfInBounds_toArray, List.set_cons_zero, List.set_cons_succ]
          refine wpAnyH_take (i := 32) (oi := { dst := some 113, op := Op.call { callee := Callee.builtin Builtin.len, args := #[Operand.tmp 112], argTypes := #[65] }, type := 3, pos := "law.go:488", after := #[{ on := 31, ground := Ground.data }, { on := 26, ground := Ground.guard }], guard := some (26, false) }) (v := ?_) rfl (by kernel_rfl) (by kernel_rfl) (by kernel_rfl) (fun _ _ _ h => h) (Or.inl ⟨by rfl, ?_⟩) (by assumption) ?_
          rotate_left
          · (intro w hSw; (try dsimp only at hSw); go_simp); (try with_reducible rfl)
          try simp only [Act.put, List.setIfInBounds_toArray, List.set_cons_zero, List.set_cons_succ]
          refine wpAnyH_take (i := 33) (oi := { dst := some 114, op := Op.binOp BinOp.add 3 (Operand.tmp 113) (Operand.const (Value.int IntKind.i64 1)) 3, type := 3, pos := "law.go:488", after := #[{ on := 32, ground := Ground.data }, { on := 26, ground := Ground.guard }], guard := some (26, false) }) (v := ?_) rfl (by kernel_rfl) (by kernel_rfl) (by kernel_rfl) (fun _ _ _ h => h) (Or.inl ⟨by rfl, ?_⟩) (by assumption) ?_
          rotate_left
          · (intro w hSw; (try dsimp only at hSw); go_simp); (try with_reducible rfl)
          try simp only [Act.put, List.setIfInBounds_toArray, List.set_cons_zero, List.set_cons_succ]
          refine wpAnyH_ready (rs := [28]) (by kernel_rfl) (by simp) ?_
          refine (AllReadyH.cons (o := { dst := some 109, op := Op.call { callee := Callee.value (Operand.func 38), args := #[Operand.tmp 108, Operand.const (Value.int IntKind.u8 10)], argTypes := #[9, 5] }, type := 85, pos := "law.go:488", after := #[{ on := 27, ground := Ground.data }, { on := 26, ground := Ground.chain }, { on := 26, ground := Ground.guard }], guard := some (26, false) }) rfl (fun K hK => ?_) AllReadyH.nil)
          go_simp
          refine (Split_any pt 10 wz23 hszp).mono ?_
          rintro e wz28 ⟨⟨u3, rfl, hu3⟩, hl⟩
          obtain ⟨sa, sc, rfl⟩ : ∃ a c, u3 = .slice a (ls.length + 1) c := (by rw [← HSP.out]; exact ownsRow_slice hu3)
          clear hu3
          (try go_wp2_with fail)
          have hbz28 := bthen hbz23 hl
          have hu2 := hu2.carry hl
          clear hl
          refine hK.out _ _ ⟨⟨Blk.carry HPL.out.2 hbz28, Blk.carry HPL.out.1 hbz28⟩, cellb HQ.out.1 hbz28, cellb HQ.out.2 hbz28⟩ (fun hHeld3 => ?_)
          clear hK K hHeld2
          try simp only [Act.put, List.setIfInBounds_toArray, List.set_cons_zero, List.set_cons_succ]
          refine wpAnyH_take (i := 29) (oi := { dst := some 110, op := Op.call { callee := Callee.builtin Builtin.len, args := #[Operand.tmp 109], argTypes := #[85] }, type := 3, pos := "law.go:488", after := #[{ on := 28, ground := Ground.data }, { on := 26, ground := Ground.guard }], guard := some (26, false) }) (v := ?_) rfl (by kernel_rfl) (by kernel_rfl) (by kernel_rfl) (fun _ _ _ h => h) (Or.inl ⟨by rfl, ?_⟩) (by assumption) ?_
          rotate_left
          · (intro w hSw; (try dsimp only at hSw); go_simp); (try with_reducible rfl)
          try simp only [Act.put, List.setIfInBounds_toArray, List.set_cons_zero, List.set_cons_succ]
          refine wpAnyH_take (i := 34) (oi := { dst := some 115, op := Op.binOp BinOp.neq 3 (Operand.tmp 110) (Operand.tmp 114) 3, type := 4, pos := "law.go:488", after := #[{ on := 29, ground := Ground.data }, { on := 33, ground := Ground.data }, { on := 26, ground := Ground.guard }], guard := some (26, false) }) (v := ?_) rfl (by kernel_rfl) (by kernel_rfl) (by kernel_rfl) (fun _ _ _ h => h) (Or.inl ⟨by rfl, ?_⟩) (by assumption) ?_
          rotate_left
          · (intro w hSw; (try dsimp only at hSw); go_simp); (try with_reducible rfl)
          try simp only [Act.put, List.setIfInBounds_toArray, List.set_cons_zero, List.set_cons_succ]
          refine wpAnyH_take (i := 35) (oi := { dst := some 116, op := Op.pick (Operand.tmp 107) (Operand.const (Value.bool true)) (Operand.tmp 115), type := 4, pos := "law.go:488", after := #[{ on := 26, ground := Ground.data }, { on := 34, ground := Ground.data }], guard := none }) (v := ?_) rfl (by kernel_rfl) (by kernel_rfl) (by kernel_rfl) (fun _ _ _ h => h) (Or.inl ⟨by rfl, ?_⟩) (by assumption) ?_
          rotate_left
          · (intro w hSw; (try dsimp only at hSw); go_simp); (try with_reducible rfl)
          try simp only [Act.put, List.setIfInBounds_toArray, List.set_cons_zero, List.set_cons_succ]
          refine wpAnyH_done (by kernel_rfl) ?_ _
          clear hHeld3
          have hB := hbz28
          obtain ⟨V5, hV5⟩ : ∃ v, v = wz28 := ⟨_, rfl⟩
          rw [← hV5] at hB ⊢
          clear hV5 he w2 h0
          have hA := bthen HAA.out hB
          have cF := cellb HQ.out.2 hB
          clear HAA HX4 HPL hszp hB
          have hn9 : s.size ≤ 100000 := by omega
          obtain ⟨m, hm⟩ := accB_pos ls HZ.out
          rw [← HPT.out] at hm
          have HM1 := Lib.hid hm
          have q3 : (m : Int) ≤ (pt.size : Int) := by omega
          have q1 : wrap64 ((pt.size : Int) - 1) = (m : Int) := by
            rw [hm]
            have := HSZ.out
            have h9 : IntKind.i64.wrap (((m + 1 : Nat) : Int) - 1) = ((m + 1 : Nat) : Int) - 1 := IntWalk.i64_in _ (by omega)
            rw [wrapEq] at h9
            omega
          clear hm
          go_wp2_with fail
          refine (Parse_any s V5 hn9 (HM.out.carry hA)).mono ?_
          rintro e V6 ⟨hpp, hb⟩
          replace hA := bthen hA hb
          replace cF := cellb cF hb
          clear hb
          rcases parse_back s with ⟨n7, e0, he0, hpc⟩ | ⟨bl, hbl, hsb, hpc⟩
          · obtain rfl := hpc e V6 hpp
            have hez : (e0 == 0) = false := by rw [beq_eq_false_iff_ne]; exact he0
            clear hpc hpp
            go_upto_region 13 with fail
            obtain ⟨V7, hV7⟩ : ∃ v, v = World.alloc V6 (Obj.cells #[.slice none 0 0] 73) := ⟨_, rfl⟩
            have kV7 : Below V6.heap.size V6 V7 := by rw [hV7]; exact below_new _ _
            have iV7 : Blk V7 (V6.heap.size) 73 [.slice none 0 0] := by rw [hV7]; exact Blk.new _ _ _
            have sV7 : V7.heap.size = V6.heap.size + 1 := by rw [hV7]; simp
            rw [← hV7]
            clear hV7
            replace hA := bthen hA kV7
            replace cF := cellb cF kV7
            clear kV7 sV7 iV7
            go_wp2_with fail
            refine (Parse_any (pt.extract 0 m) V7 (by rw [ByteArray.size_extract]; have := HSZ.out; omega) (HM.out.carry hA)).mono ?_
            rintro e Z1 ⟨hpp, hb⟩
            obtain rfl := parse_cut ls HZ.out (pt.extract 0 m) (by rw [cut_last pt m HM1.out, HPT.out]) e Z1 hpp
            replace hA := bthen hA hb
            replace cF := cellb cF hb
            clear hb hpp
            go_upto_region 18 with fail
            obtain ⟨Z2, hZ2⟩ : ∃ v, v = World.alloc Z1 (Obj.cells #[.slice none 0 0] 73) := ⟨_, rfl⟩
            have kZ2 : Below Z1.heap.size Z1 Z2 := by rw [hZ2]; exact below_new _ _
            have iZ2 : Blk Z2 (Z1.heap.size) 73 [.slice none 0 0] := by rw [hZ2]; exact Blk.new _ _ _
            have sZ2 : Z2.heap.size = Z1.heap.size + 1 := by rw [hZ2]; simp
            rw [← hZ2]
            clear hZ2
            replace hA := bthen hA kZ2
            replace cF := cellb cF kZ2
            clear kZ2 sZ2 iZ2
            have hl0 := (fltE_zero HZ.out).1.1
            have w3 : ((ls.length - 1 : Nat) : Int) = (ls.length : Int) - 1 := by omega
            rw [w3]
            have w4 : IntKind.i64.wrap ((ls.length : Int) - 1) = (ls.length : Int) - 1 := IntWalk.i64_in _ (by omega)
            have w5 : wrap64 ((ls.length : Int) - 1) = (ls.length : Int) - 1 := by rw [← wrapEq]; exact w4
            go_wp2_with fail
            refine (TAW.out Z2 (HW.out.carry hA) (HP.out.carry hA)).mono ?_
            rintro e We ⟨rfl, hb⟩
            go_wp2_with fail
            go_ret
            exact ⟨rfl, bthen hA hb⟩
          · obtain ⟨y, rfl, hy⟩ := hpc e V6 hpp
            obtain ⟨yb, yd, rfl, _⟩ := id hy
            have HBL := Lib.hid hbl
            have hbl3 := (fltE_zero hbl).1.2
            have HSB := Lib.hid hsb
            clear hpc hpp hbl hsb
            go_upto_region 13 with fail
            obtain ⟨V7, hV7⟩ : ∃ v, v = World.alloc V6 (Obj.cells #[.slice yb bl.length yd] 73) := ⟨_, rfl⟩
            have kV7 : Below V6.heap.size V6 V7 := by rw [hV7]; exact below_new _ _
            have iV7 : Blk V7 (V6.heap.size) 73 [.slice yb bl.length yd] := by rw [hV7]; exact Blk.new _ _ _
            have sV7 : V7.heap.size = V6.heap.size + 1 := by rw [hV7]; simp
            rw [← hV7]
            clear hV7
            have hy7 := hy.carry kV7
            replace hA := bthen hA kV7
            replace cF := cellb cF kV7
            have cY := iV7.cell (j := 0) (v := .slice yb bl.length yd) rfl
            have t4 := Print_any _ bl V7 hy7 (by omega) (HP.out.carry hA)
            rw [HBL.out, sOr, if_pos rfl, ← accB_all, ← HSB.out] at t4
            have T4 := Lib.hid t4
            clear t4 hy hy7 kV7 sV7 iV7
            go_wp2_with fail
            refine T4.out.mono ?_
            rintro e V8 ⟨rfl, hb⟩
            replace hA := bthen hA hb
            replace cF := cellb cF hb
            clear hb cY T4
            go_wp2_with fail
            refine (Parse_any (pt.extract 0 m) V8 (by rw [ByteArray.size_extract]; have := HSZ.out; omega) (HM.out.carry hA)).mono ?_
            rintro e Z1 ⟨hpp, hb⟩
            obtain rfl := parse_cut ls HZ.out (pt.extract 0 m) (by rw [cut_last pt m HM1.out, HPT.out]) e Z1 hpp
            replace hA := bthen hA hb
            replace cF := cellb cF hb
            clear hb hpp
            go_upto_region 18 with fail
            obtain ⟨Z2, hZ2⟩ : ∃ v, v = World.alloc Z1 (Obj.cells #[.slice none 0 0] 73) := ⟨_, rfl⟩
            have kZ2 : Below Z1.heap.size Z1 Z2 := by rw [hZ2]; exact below_new _ _
            have iZ2 : Blk Z2 (Z1.heap.size) 73 [.slice none 0 0] := by rw [hZ2]; exact Blk.new _ _ _
            have sZ2 : Z2.heap.size = Z1.heap.size + 1 := by rw [hZ2]; simp
            rw [← hZ2]
            clear hZ2
            replace hA := bthen hA kZ2
            replace cF := cellb cF kZ2
            clear kZ2 sZ2 iZ2
            have hl0 := (fltE_zero HZ.out).1.1
            have w3 : ((ls.length - 1 : Nat) : Int) = (ls.length : Int) - 1 := by omega
            rw [w3]
            have w4 : IntKind.i64.wrap ((ls.length : Int) - 1) = (ls.length : Int) - 1 := IntWalk.i64_in _ (by omega)
            have w5 : wrap64 ((ls.length : Int) - 1) = (ls.length : Int) - 1 := by rw [← wrapEq]; exact w4
            go_wp2_with fail
            refine (TAW.out Z2 (HW.out.carry hA) (HP.out.carry hA)).mono ?_
            rintro e We ⟨rfl, hb⟩
            go_wp2_with fail
            go_ret
            exact ⟨rfl, bthen hA hb⟩
        · have d1 : 200 < (n : Int) := by omega
          go_wp2_with fail
          refine (TAW.out W5 (HW.out.carry hA) (HP.out.carry hA)).mono ?_
          rintro e We ⟨rfl, hb⟩
          go_wp2_with fail
          go_ret
          exact ⟨rfl, bthen hA hb⟩
      · have hpb : (patE l == 0) = false := by rw [beq_eq_false_iff_ne]; exact hpz
        generalize patE l = fe at hpb hpz
        go_wp2_with fail
        refine (TAW.out W5 (HW.out.carry hA) (HP.out.carry hA)).mono ?_
        rintro e We ⟨rfl, hb⟩
        go_wp2_with fail
        go_ret
        exact ⟨rfl, bthen hA hb⟩
    · have hzb : (fltE ls == 0) = false := by rw [beq_eq_false_iff_ne]; exact hz
      generalize fltE ls = fe at hzb hz
      go_wp2_with fail
      refine (TAW.out W4 (HW.out.carry hA) (HP.out.carry hA)).mono ?_
      rintro e We ⟨rfl, hb⟩
      go_wp2_with fail
      go_ret
      exact ⟨rfl, bthen hA hb⟩
  · rw [decide_eq_false hs4]
    go_wp2_with fail
    refine (TAW.out W3 (HW.out.carry hA) (HP.out.carry hA)).mono ?_
    rintro e We ⟨rfl, hb⟩
    go_wp2_with fail
    go_ret
    exact ⟨rfl, bthen hA hb⟩
end

end Go.Proofs.YtoihfmndhfnmmaaGreatDoor

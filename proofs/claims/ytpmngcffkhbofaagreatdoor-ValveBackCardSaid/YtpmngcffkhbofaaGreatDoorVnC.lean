/- Plain facts of texts of logs: a text cut at a byte, lines, integers of digits alone, the lines of a log. No program in sight. -/
import Derived.Lib.SplitLaws
import Derived.Lib.IndexBytes
import Derived.Lib.ItoaMem
import Derived.Test.YtpmngcffkhbofaaGreatDoorVaT
import Derived.Laws.RangeAny
import Derived.Laws.DeepStrings4
import Derived.Test.YtpmngcffkhbofaaGreatDoorShelf
import Derived.BigRegionIn
import Derived.WideMake
namespace Go.Proofs.YtpmngcffkhbofaaGreatDoor
section
set_option linter.unusedSimpArgs false
set_option linter.unusedVariables false
open Go.RowKit
/-- the parts of a text between the places of a byte. -/
def splitC (c : UInt8) : List UInt8 → List (List UInt8)
 | [] => [[]]
 | x :: t => if x = c then [] :: splitC c t else match splitC c t with
   | [] => [[x]]
   | p :: ps => (x :: p) :: ps
theorem splitC_ne (c : UInt8) : ∀ l, splitC c l ≠ []
 | [] => by simp [splitC]
 | x :: t => by
   unfold splitC
   split
   ·simp
   ·split <;> simp
/-- the last part grows. -/
def growLast (x : UInt8) : List (List UInt8) → List (List UInt8)
 | [] => [[x]]
 | [p] => [p ++ [x]]
 | p :: q :: r => p :: growLast x (q :: r)
theorem splitC_snoc (c x : UInt8) : ∀ l, splitC c (l ++ [x]) = if x = c then splitC c l ++ [[]] else growLast x (splitC c l)
 | [] => by
   by_cases h : x = c <;> simp [splitC, h, growLast]
 | y :: t => by
   have ih := splitC_snoc c x t
   have hne := splitC_ne c t
   rw [List.cons_append]
   by_cases hy : y = c
   ·rw [splitC, if_pos hy, splitC, if_pos hy, ih]
    by_cases h : x = c
    ·simp [h]
    ·rw [if_neg h, if_neg h]
     cases hs : splitC c t with
     | nil => exact absurd hs hne
     | cons p ps => rfl
   ·rw [splitC, if_neg hy, splitC, if_neg hy, ih]
    by_cases h : x = c
    ·rw [if_pos h, if_pos h]
     cases hs : splitC c t with
     | nil => exact absurd hs hne
     | cons p ps => rfl
    ·rw [if_neg h, if_neg h]
     cases hs : splitC c t with
     | nil => exact absurd hs hne
     | cons p ps =>
       cases ps with
       | nil => rfl
       | cons q r => rfl
theorem growLast_concat (x : UInt8) (p : List UInt8) : ∀ l, growLast x (l ++ [p]) = l ++ [p ++ [x]]
 | [] => rfl
 | [a] => rfl
 | a :: b :: r => by
   have := growLast_concat x p (b :: r)
   simp only [List.cons_append] at this ⊢
   rw [growLast, this]
theorem splitC_length (c : UInt8) : ∀ l, (splitC c l).length = l.count c + 1
 | [] => rfl
 | x :: t => by
   have ih := splitC_length c t
   have hne := splitC_ne c t
   unfold splitC
   by_cases h : x = c
   ·rw [if_pos h, List.length_cons, ih, h, List.count_cons_self]
   ·rw [if_neg h, List.count_cons_of_ne (by simpa using h)]
    cases hs : splitC c t with
    | nil => exact absurd hs hne
    | cons p ps => rw [hs] at ih; simpa using ih
/-- a text without the byte. -/
theorem splitC_none (c : UInt8) : ∀ l : List UInt8, c ∉ l → splitC c l = [l]
 | [], _ => rfl
 | x :: t, h => by
   have h1 : x ≠ c := fun e => h (by rw [e]; exact List.mem_cons_self ..)
   rw [splitC, if_neg h1, splitC_none c t (fun e => h (List.mem_cons_of_mem _ e))]
/-- the first part, the byte, and the rest. -/
theorem splitC_hit (c : UInt8) (r : List UInt8) : ∀ l : List UInt8, c ∉ l → splitC c (l ++ c :: r) = l :: splitC c r
 | [], _ => by rw [List.nil_append, splitC, if_pos rfl]
 | x :: t, h => by
   have h1 : x ≠ c := fun e => h (by rw [e]; exact List.mem_cons_self ..)
   rw [List.cons_append, splitC, if_neg h1, splitC_hit c r t (fun e => h (List.mem_cons_of_mem _ e))]
theorem index_none {l : List UInt8} {c : UInt8} (h : Lib.indexByte l c = -1) : c ∉ l := fun e => by
 obtain ⟨k, hk⟩ := List.mem_iff_getElem?.1 e
 exact Lib.indexByte_none h k hk
theorem index_hit {l : List UInt8} {c : UInt8} {o : Nat} (h : Lib.indexByte l c = o) : c ∉ l.take o ∧ l = l.take o ++ c :: l.drop (o + 1) := by
 obtain ⟨h1, h2⟩ := Lib.indexByte_some h
 refine ⟨fun e => ?_, ?_⟩
 ·obtain ⟨k, hk⟩ := List.mem_iff_getElem?.1 e
  rw [List.getElem?_take] at hk
  split at hk
  ·rename_i hlt
   exact h2 k hlt hk
  ·cases hk
 ·obtain ⟨hlt, he⟩ := List.getElem?_eq_some_iff.1 h1
  conv => lhs; rw [← List.take_append_drop o l, List.drop_eq_getElem_cons hlt, he]
/-- the library's split at one byte. -/
theorem splitK_one (c : UInt8) : ∀ (k : Nat) (l : List UInt8), l.count c = k → Lib.splitK [c] 0 k l = splitC c l
 | 0, l, h => by
   rw [Lib.splitK, splitC_none c l (List.count_eq_zero.1 h)]
 | k + 1, l, h => by
   rw [Lib.splitK, Lib.index_one]
   have hmem : c ∈ l := List.count_pos_iff.1 (by omega)
   split
   ·rename_i hm
    exact absurd hmem (index_none (by simpa using hm))
   ·rename_i hm
    have hge := Lib.indexByte_ge l c
    have hm' : Lib.indexByte l c ≠ -1 := by simpa using hm
    obtain ⟨o, ho⟩ : ∃ o : Nat, Lib.indexByte l c = o := ⟨(Lib.indexByte l c).toNat, by omega⟩
    obtain ⟨hn, he⟩ := index_hit ho
    rw [ho, Int.toNat_natCast, Nat.add_zero, List.length_singleton]
    have hc : (l.drop (o + 1)).count c = k := by
     rw [he, List.count_append, List.count_eq_zero.2 hn, List.count_cons_self] at h
     omega
    rw [splitK_one c k _ hc]
    conv => rhs; rw [he, splitC_hit c _ _ hn]
theorem split_one (c : UInt8) (l : List UInt8) : Lib.splitK [c] 0 (Lib.count l [c]) l = splitC c l := splitK_one c _ l (Lib.count_one c l).symm
/-- the lines of a text, each with its end. -/
def linesL (l : List UInt8) : List (List UInt8) := ((splitC 10 l).dropLast.map (· ++ [10])) ++ (if (splitC 10 l).getLast (splitC_ne 10 l) = [] then [] else [(splitC 10 l).getLast (splitC_ne 10 l)])
theorem linesL_nil : linesL [] = [] := by simp [linesL, splitC]
theorem linesL_none {l : List UInt8} (h : (10 : UInt8) ∉ l) (hl : l ≠ []) : linesL l = [l] := by
 unfold linesL
 simp only [splitC_none 10 l h, List.dropLast_singleton, List.map_nil, List.nil_append, List.getLast_singleton]
 rw [if_neg hl]
theorem linesL_hit {l r : List UInt8} (h : (10 : UInt8) ∉ l) : linesL (l ++ 10 :: r) = (l ++ [10]) :: linesL r := by
 unfold linesL
 have hne := splitC_ne 10 r
 simp only [splitC_hit 10 r l h]
 rw [List.dropLast_cons_of_ne_nil hne, List.map_cons, List.cons_append]
 simp only [List.getLast_cons hne]
/-- an integer of at most nine digits, without a sign and without leading zeros. -/
def valD (l : List UInt8) : Int := l.foldl (fun n c => 10 * n + ((c.toNat : Int) - 48)) 0
def isD (c : UInt8) : Bool := 48 ≤ c && c ≤ 57
def digOk (l : List UInt8) : Bool := l.length ≠ 0 && l.length ≤ 9 && (l.length = 1 || l[0]? ≠ some 48) && l.all isD
theorem splitC_free (c : UInt8) : ∀ (l p : List UInt8), p ∈ splitC c l → c ∉ p
 | [], p, h => by
   simp only [splitC, List.mem_singleton] at h
   rw [h]; simp
 | x :: t, p, h => by
   have ih := splitC_free c t
   rw [splitC] at h
   by_cases hx : x = c
   ·rw [if_pos hx] at h
    rcases List.mem_cons.1 h with rfl | h
    ·simp
    ·exact ih p h
   ·rw [if_neg hx] at h
    cases hs : splitC c t with
    | nil => exact absurd hs (splitC_ne c t)
    | cons q qs =>
      rw [hs] at h ih
      rcases List.mem_cons.1 h with rfl | h
      ·intro e
       rcases List.mem_cons.1 e with e | e
       ·exact hx e.symm
       ·exact ih q (List.mem_cons_self ..) e
      ·exact ih p (List.mem_cons_of_mem _ h)
theorem valD_snoc (l : List UInt8) (b : UInt8) : valD (l ++ [b]) = 10 * valD l + ((b.toNat : Int) - 48) := by
 simp [valD, List.foldl_append]
theorem isD_iff (b : UInt8) : isD b = true ↔ 48 ≤ b.toNat ∧ b.toNat ≤ 57 := by
 unfold isD
 rw [Bool.and_eq_true, decide_eq_true_eq, decide_eq_true_eq, UInt8.le_iff_toNat_le, UInt8.le_iff_toNat_le]
 rfl
theorem valD_bd : ∀ (k : Nat) (l : List UInt8), l.length = k → l.all isD = true → 0 ≤ valD l ∧ valD l < 10 ^ k
 | 0, l, h, _ => by
   obtain rfl := List.length_eq_zero_iff.1 h
   exact ⟨by decide, by decide⟩
 | k + 1, l, h, ha => by
   obtain ⟨l', b, rfl⟩ : ∃ l' b, l = l' ++ [b] := ⟨l.dropLast, l.getLast (by intro e; rw [e] at h; cases h), (List.dropLast_concat_getLast _).symm⟩
   rw [List.length_append, List.length_singleton] at h
   rw [List.all_append, Bool.and_eq_true] at ha
   have ih := valD_bd k l' (by omega) ha.1
   have hb := (isD_iff b).1 (by simpa using ha.2)
   rw [valD_snoc, Int.pow_succ]
   omega
theorem valD_9 {l : List UInt8} (h : l.length ≤ 9) (ha : l.all isD = true) : 0 ≤ valD l ∧ valD l ≤ 999999999 := by
 have h1 := valD_bd l.length l rfl ha
 have h2 : (10 : Int) ^ l.length ≤ 10 ^ 9 := by
  have : (10 : Nat) ^ l.length ≤ 10 ^ 9 := Nat.pow_le_pow_right (by decide) h
  exact_mod_cast this
 have h3 : (10 : Int) ^ 9 = 1000000000 := by decide
 omega
theorem digOk_false {l : List UInt8} (h : l.length = 0 ∨ 9 < l.length ∨ (l.length ≠ 1 ∧ l[0]?.getD 0 = 48) ∨ ∃ k, k < l.length ∧ isD (l[k]?.getD 0) = false) : digOk l = false := by
 unfold digOk
 rcases h with h | h | ⟨h1, h2⟩ | ⟨k, hk, h⟩
 ·simp [h]
 ·rw [decide_eq_false (show ¬ l.length ≤ 9 by omega)]; simp
 ·rcases Nat.eq_zero_or_pos l.length with h0 | h0
  ·simp [h0]
  ·have : l[0]? = some 48 := by rw [List.getElem?_eq_getElem h0] at h2 ⊢; rw [← h2]; rfl
   simp [h1, this]
 ·have : l.all isD = false := by
   rw [List.all_eq_false]
   exact ⟨l[k], List.getElem_mem hk, by rw [List.getElem?_eq_getElem hk] at h; simpa using h⟩
  rw [this]; simp
theorem digOk_true {l : List UInt8} (h0 : l.length ≠ 0) (h9 : l.length ≤ 9) (h1 : l.length = 1 ∨ l[0]?.getD 0 ≠ 48) (ha : l.all isD = true) : digOk l = true := by
 unfold digOk
 rw [ha]
 rcases h1 with h1 | h1
 ·simp [h1]
 ·have : l[0]? ≠ some 48 := fun e => h1 (by rw [e]; rfl)
  simp [h0, h9, this]
abbrev strV (p : List UInt8) : Value := .string ⟨p.toArray⟩
theorem baEq {a b : ByteArray} (h : a.data.toList = b.data.toList) : a = b := by
 obtain ⟨⟨x⟩⟩ := a
 obtain ⟨⟨y⟩⟩ := b
 simp only at h
 rw [h]
theorem data_append (a b : ByteArray) : (a ++ b).data.toList = a.data.toList ++ b.data.toList := by
 rw [ByteArray.data_append, Array.toList_append]
theorem pieceAt (s : ByteArray) (k : Nat) (hk : k < s.size) : (s.extract k (k + 1)).data.toList = [s.data.toList[k]?.getD 0] := by
 have hk' : k < s.data.toList.length := by rw [data_len]; exact hk
 rw [ByteArray.data_extract, Array.toList_extract, List.getElem?_eq_getElem hk', List.extract_eq_take_drop, show k + 1 - k = 1 by omega, List.drop_eq_getElem_cons hk']
 rfl
theorem growAt (s : ByteArray) (k : Nat) (hk : k < s.size) (p : List UInt8) : (⟨p.toArray⟩ : ByteArray) ++ s.extract k (k + 1) = ⟨(p ++ [s.data.toList[k]?.getD 0]).toArray⟩ := by
 apply baEq
 rw [data_append, pieceAt s k hk]
theorem splitC_len (c : UInt8) : ∀ (l p : List UInt8), p ∈ splitC c l → p.length ≤ l.length
 | [], p, h => by
   simp only [splitC, List.mem_singleton] at h
   rw [h]; simp
 | x :: t, p, h => by
   have ih := splitC_len c t
   rw [splitC] at h
   by_cases hx : x = c
   ·rw [if_pos hx] at h
    rcases List.mem_cons.1 h with rfl | h
    ·simp
    ·have := ih p h
     rw [List.length_cons]; omega
   ·rw [if_neg hx] at h
    cases hs : splitC c t with
    | nil => exact absurd hs (splitC_ne c t)
    | cons q qs =>
      rw [hs] at h ih
      rcases List.mem_cons.1 h with rfl | h
      ·have := ih q (List.mem_cons_self ..)
       rw [List.length_cons, List.length_cons]; omega
      ·have := ih p (List.mem_cons_of_mem _ h)
       rw [List.length_cons]; omega
theorem mk_size (p : List UInt8) : (⟨p.toArray⟩ : ByteArray).size = p.length := by simp [ByteArray.size]
theorem concat_of_ne {α : Type} {l : List α} (h : l ≠ []) : ∃ q p, l = q ++ [p] := ⟨l.dropLast, l.getLast h, (List.dropLast_concat_getLast h).symm⟩
def endsL (l : List UInt8) : Bool := l.getLast? == some 10
def bodyL (l : List UInt8) : List UInt8 := if endsL l = true then l.dropLast else l
theorem suffix_one (l : List UInt8) : Lib.hasSuffix l [10] = endsL l := by
 unfold endsL
 show List.isSuffixOf [10] l = _
 rcases List.eq_nil_or_concat l with rfl | ⟨a, b, rfl⟩
 ·rfl
 ·rw [List.concat_eq_append, List.getLast?_concat]
  by_cases h : b = 10
  ·subst h
   rw [List.isSuffixOf_iff_suffix.2 (List.suffix_append a [10])]
   rfl
  ·have h1 : ¬ ([10] : List UInt8) <:+ a ++ [b] := fun ⟨t, ht⟩ => by
    have := (List.append_inj' ht rfl).2
    simp at this
    exact h this.symm
   rw [show List.isSuffixOf [10] (a ++ [b]) = false by rw [Bool.eq_false_iff]; exact fun e => h1 (List.isSuffixOf_iff_suffix.1 e)]
   simp [h]
theorem trim_one (l : List UInt8) : Lib.trimSuffix l [10] = bodyL l := by
 unfold Lib.trimSuffix bodyL
 rw [suffix_one]
 by_cases h : endsL l = true
 ·rw [if_pos h, if_pos h, List.dropLast_eq_take]; rfl
 ·rw [if_neg h, if_neg h]
theorem linesL_len (L : List UInt8) : (linesL L).length ≤ L.length + 1 := by
 have h := splitC_length 10 L
 have h2 : L.count 10 ≤ L.length := List.count_le_length
 unfold linesL
 rw [List.length_append, List.length_map, List.length_dropLast]
 split <;> simp <;> omega
theorem lineL_len {L x : List UInt8} (h : x ∈ linesL L) : x.length ≤ L.length + 1 := by
 unfold linesL at h
 rcases List.mem_append.1 h with h | h
 ·obtain ⟨p, hp, rfl⟩ := List.mem_map.1 h
  have := splitC_len 10 L p (List.dropLast_subset _ hp)
  rw [List.length_append, List.length_singleton]; omega
 ·split at h
  ·simp at h
  ·have := splitC_len 10 L x (by rw [List.mem_singleton.1 h]; exact List.getLast_mem _)
   omega
theorem bodyL_len (l : List UInt8) : (bodyL l).length ≤ l.length := by
 unfold bodyL
 split
 ·rw [List.length_dropLast]; omega
 ·exact Nat.le_refl _
/-- the parts of a text: whole lines, and what stands behind the last end. -/
theorem parts (L : List UInt8) : ∃ init last, splitC 10 L = init ++ [last] ∧ (10 : UInt8) ∉ last ∧ linesL L = init.map (· ++ [10]) ++ (if last = [] then [] else [last]) := by
 have hne := splitC_ne 10 L
 refine ⟨(splitC 10 L).dropLast, (splitC 10 L).getLast hne, (List.dropLast_concat_getLast hne).symm, splitC_free 10 L _ (List.getLast_mem hne), rfl⟩
theorem ofNat_toNat {k : Nat} (h : k < 10) : (UInt8.ofNat (48 + k)).toNat = 48 + k := by
 rw [UInt8.toNat_ofNat']; omega
theorem dig_step (u : Nat) : Lib.decDigits u = if u < 10 then [UInt8.ofNat (48 + u)] else Lib.decDigits (u / 10) ++ [UInt8.ofNat (48 + u % 10)] := by
 rw [Lib.decDigits]
 by_cases h : u < 10
 ·rw [dif_pos h, if_pos h]
 ·rw [dif_neg h, if_neg h]
theorem isD_of {k : Nat} (h : k < 10) : isD (UInt8.ofNat (48 + k)) = true := (isD_iff _).2 (by rw [ofNat_toNat h]; omega)
theorem dig_all (u : Nat) : (Lib.decDigits u).all isD = true ∧ valD (Lib.decDigits u) = (u : Int) ∧ 0 < (Lib.decDigits u).length ∧ ((Lib.decDigits u).length = 1 ∨ (Lib.decDigits u)[0]?.getD 0 ≠ 48) ∧ (0 < u → (Lib.decDigits u)[0]?.getD 0 ≠ 48) := by
 induction u using Nat.strongRecOn with
 | _ u ih =>
   rw [dig_step]
   by_cases h : u < 10
   ·rw [if_pos h]
    refine ⟨by rw [List.all_cons, isD_of h]; rfl, ?_, by simp, .inl rfl, fun h0 => ?_⟩
    ·simp [valD, ofNat_toNat h]; omega
    ·intro e
     have := congrArg UInt8.toNat e
     simp [ofNat_toNat h] at this
     have h2 := ofNat_toNat h
     omega
   ·rw [if_neg h]
    obtain ⟨h1, h2, h3, h4, h5⟩ := ih (u / 10) (by omega)
    have hr : u % 10 < 10 := by omega
    have hh : (Lib.decDigits (u / 10) ++ [UInt8.ofNat (48 + u % 10)])[0]?.getD 0 = (Lib.decDigits (u / 10))[0]?.getD 0 := by rw [List.getElem?_append_left h3]
    refine ⟨by rw [List.all_append, h1, List.all_cons, isD_of hr]; rfl, ?_, by simp, .inr ?_, fun _ => ?_⟩
    ·rw [valD_snoc, h2, ofNat_toNat hr]; omega
    ·rw [hh]; exact h5 (by omega)
    ·rw [hh]; exact h5 (by omega)
theorem dig_len : ∀ (d u : Nat), u < 10 ^ (d + 1) → (Lib.decDigits u).length ≤ d + 1
 | 0, u, h => by
   rw [dig_step, if_pos (by simpa using h)]; simp
 | d + 1, u, h => by
   rw [dig_step]
   by_cases h10 : u < 10
   ·rw [if_pos h10]; simp
   ·rw [if_neg h10, List.length_append, List.length_singleton]
    have := dig_len d (u / 10) (by rw [Nat.pow_succ] at h; omega)
    omega
theorem digOk_dec {u : Nat} (h : u < 1000000000) : digOk (Lib.decDigits u) = true := by
 obtain ⟨h1, _, h3, h4, _⟩ := dig_all u
 exact digOk_true (by omega) (dig_len 8 u (by simpa using h)) h4 h1
/-- a word that is an integer is the integer's text. -/
theorem dec_val : ∀ (n : Nat) (l : List UInt8), l.length = n → 0 < n → l.all isD = true → (n = 1 ∨ l[0]?.getD 0 ≠ 48) → Lib.decDigits (valD l).toNat = l
 | 0, l, _, h, _, _ => by omega
 | 1, l, hl, _, ha, _ => by
   match l, hl with
   | [b], _ =>
     have hb := (isD_iff b).1 (by simpa using ha)
     have hv : valD [b] = (b.toNat : Int) - 48 := by simp [valD]
     rw [hv, dig_step, if_pos (by omega), show ((b.toNat : Int) - 48).toNat = b.toNat - 48 by omega, show 48 + (b.toNat - 48) = b.toNat by omega]
     simp
 | n + 2, l, hl, _, ha, hz => by
   obtain ⟨l', b, rfl⟩ : ∃ l' b, l = l' ++ [b] := ⟨l.dropLast, l.getLast (by intro e; rw [e] at hl; cases hl), (List.dropLast_concat_getLast _).symm⟩
   rw [List.length_append, List.length_singleton] at hl
   have hl' : l'.length = n + 1 := by omega
   rw [List.all_append, Bool.and_eq_true] at ha
   have hb := (isD_iff b).1 (by simpa using ha.2)
   have hh : l'[0]?.getD 0 ≠ 48 := by
    rcases hz with hz | hz
    ·omega
    ·rwa [List.getElem?_append_left (by omega)] at hz
   have ih := dec_val (n + 1) l' hl' (by omega) ha.1 (.inr hh)
   have hbd := valD_bd l'.length l' rfl ha.1
   have hpos : 0 < valD l' := by
    rcases Int.lt_or_le 0 (valD l') with h | h
    ·exact h
    ·exfalso
     have h0 : valD l' = 0 := by omega
     rw [h0] at ih
     have : l' = [48] := by rw [← ih]; show Lib.decDigits 0 = [48]; rw [dig_step]; rfl
     rw [this] at hh
     exact hh rfl
   rw [valD_snoc, dig_step, if_neg (by omega), show (10 * valD l' + ((b.toNat : Int) - 48)).toNat / 10 = (valD l').toNat by omega, show (10 * valD l' + ((b.toNat : Int) - 48)).toNat % 10 = b.toNat - 48 by omega, ih, show 48 + (b.toNat - 48) = b.toNat by omega]
   simp
theorem dec_of_digOk {l : List UInt8} (h : digOk l = true) : Lib.decDigits (valD l).toNat = l := by
 unfold digOk at h
 simp only [Bool.and_eq_true, decide_eq_true_eq, Bool.or_eq_true] at h
 obtain ⟨⟨⟨h0, _⟩, h1⟩, ha⟩ := h
 refine dec_val l.length l rfl (by omega) ha (h1.imp id fun h => ?_)
 intro e
 apply h
 have h0' : 0 < l.length := by omega
 rw [List.getElem?_eq_getElem h0'] at e ⊢
 rw [← e]; rfl
theorem not_isD {c : UInt8} {l : List UInt8} (hc : isD c = false) (h : l.all isD = true) : c ∉ l := fun e => by
 have := List.all_eq_true.1 h c e
 rw [hc] at this; cases this
/-- the parts of a text make the text. -/
def joinC (c : UInt8) : List (List UInt8) → List UInt8
 | [] => []
 | [p] => p
 | p :: q :: r => p ++ c :: joinC c (q :: r)
theorem joinC_split (c : UInt8) : ∀ l, joinC c (splitC c l) = l
 | [] => rfl
 | x :: t => by
   have ih := joinC_split c t
   rw [splitC]
   by_cases h : x = c
   ·rw [if_pos h]
    cases hs : splitC c t with
    | nil => exact absurd hs (splitC_ne c t)
    | cons p ps =>
      rw [hs] at ih
      rw [joinC, ih, h]; rfl
   ·rw [if_neg h]
    cases hs : splitC c t with
    | nil => exact absurd hs (splitC_ne c t)
    | cons p ps =>
      rw [hs] at ih
      cases ps with
      | nil => simp only [joinC] at ih ⊢; rw [ih]
      | cons q r => simp only [joinC] at ih ⊢; rw [List.cons_append, ih]
theorem flat_lines (l : List UInt8) : (linesL l).flatten = l := by
 have hj := joinC_split 10 l
 have key : ∀ (init : List (List UInt8)) (last : List UInt8), joinC 10 (init ++ [last]) = ((init.map (· ++ [10])) ++ (if last = [] then [] else [last])).flatten := by
  intro init last
  induction init with
  | nil => by_cases h : last = [] <;> simp [joinC, h]
  | cons p t ih =>
    have : joinC 10 ((p :: t) ++ [last]) = p ++ 10 :: joinC 10 (t ++ [last]) := by
     cases t with
     | nil => rfl
     | cons q r => rfl
    rw [this, ih, List.map_cons, List.cons_append, List.flatten_cons, List.append_assoc]
    rfl
 obtain ⟨init, last, hs, _, hl⟩ := parts l
 rw [hl, ← key, ← hs, hj]
theorem dig_of_digOk {l : List UInt8} (h : digOk l = true) : l.length ≠ 0 ∧ l.length ≤ 9 ∧ l.all isD = true := by
 unfold digOk at h
 simp only [Bool.and_eq_true, decide_eq_true_eq] at h
 exact ⟨h.1.1.1, h.1.1.2, h.2⟩
/-- a line of integers behind a word. -/
def lineI (wd : List UInt8) (c : Nat) (ws : List (List UInt8)) : Option (List Int) :=
 match ws with
 | [] => none
 | w :: r => if w = wd ∧ r.length = c ∧ r.all digOk = true then some (r.map valD) else none
/-- the first words of the lines, and how many integers stand behind them. -/
def fldL : Nat → List UInt8
 | 0 => [108, 111, 103]
 | _ + 1 => [112, 117, 108, 115, 101]
def cntL : Nat → Nat
 | 0 => 1
 | _ + 1 => 2
/-- the line at a place. -/
def lineN (n : Nat) (l : List UInt8) : Option (List Int) := if endsL l = true then lineI (fldL n) (cntL n) (splitC 32 (bodyL l)) else none
/-- the first line that is wrong. -/
def badFrom : Nat → List (List UInt8) → Option Nat
 | _, [] => none
 | n, l :: r => if (lineN n l).isNone = true then some n else badFrom (n + 1) r
def badN (ls : List (List UInt8)) : Option Nat := badFrom 0 ls
/-- the integers of the line at a place. -/
def polyN (ls : List (List UInt8)) (k : Nat) : List Int := ((ls[k]?).bind (lineN k)).getD []
def pairI (l : List Int) : P2 := (l[0]?.getD 0, l[1]?.getD 0)
/-- the log that lines tell. -/
def ctlL (ls : List (List UInt8)) : Int := (polyN ls 0)[0]?.getD 0
def trnT (ls : List (List UInt8)) : List P2 := (List.range (ls.length - 1)).map fun k => pairI (polyN ls (k + 1))
theorem badFrom_some {l : List UInt8} : ∀ (ls : List (List UInt8)) (b n : Nat), ls[n]? = some l → lineN (b + n) l = none → (∀ j x, j < n → ls[j]? = some x → lineN (b + j) x ≠ none) → badFrom b ls = some (b + n)
 | [], b, n, h, _, _ => by simp at h
 | x :: r, b, 0, h, hp, _ => by
   simp only [List.getElem?_cons_zero, Option.some.injEq] at h
   subst h
   rw [badFrom, if_pos (by rw [show b = b + 0 from rfl, hp]; rfl)]; rfl
 | x :: r, b, n + 1, h, hp, hb => by
   have h0 := hb 0 x (by omega) rfl
   rw [Nat.add_zero] at h0
   rw [badFrom, if_neg (by cases hl : lineN b x with
    | none => exact absurd hl h0
    | some _ => simp)]
   rw [badFrom_some r (b + 1) n (by simpa using h) (by rw [show b + 1 + n = b + (n + 1) by omega]; exact hp) (fun j y hj hy => by
    rw [show b + 1 + j = b + (j + 1) by omega]
    exact hb (j + 1) y (by omega) (by simpa using hy))]
   congr 1
   omega
theorem badN_some {ls : List (List UInt8)} {n : Nat} {l : List UInt8} (h : ls[n]? = some l) (hp : lineN n l = none) (hb : ∀ j x, j < n → ls[j]? = some x → lineN j x ≠ none) : badN ls = some n := by
 have := badFrom_some ls 0 n h (by rw [Nat.zero_add]; exact hp) (fun j x hj hx => by rw [Nat.zero_add]; exact hb j x hj hx)
 rw [Nat.zero_add] at this
 exact this
theorem badFrom_none : ∀ (ls : List (List UInt8)) (b : Nat), (∀ j x, ls[j]? = some x → lineN (b + j) x ≠ none) → badFrom b ls = none
 | [], _, _ => rfl
 | x :: r, b, hb => by
   have h0 := hb 0 x rfl
   rw [Nat.add_zero] at h0
   rw [badFrom, if_neg (by cases hl : lineN b x with
    | none => exact absurd hl h0
    | some _ => simp)]
   exact badFrom_none r (b + 1) (fun j y hy => by
    rw [show b + 1 + j = b + (j + 1) by omega]
    exact hb (j + 1) y (by simpa using hy))
theorem badN_none {ls : List (List UInt8)} (hb : ∀ j x, ls[j]? = some x → lineN j x ≠ none) : badN ls = none :=
 badFrom_none ls 0 (fun j x hx => by rw [Nat.zero_add]; exact hb j x hx)
theorem badFrom_inv : ∀ (ls : List (List UInt8)) (b : Nat), badFrom b ls = none → ∀ j x, ls[j]? = some x → lineN (b + j) x ≠ none
 | [], b, _, j, x, h => by simp at h
 | y :: r, b, hb, j, x, h => by
   rw [badFrom] at hb
   by_cases hn : (lineN b y).isNone = true
   ·rw [if_pos hn] at hb; cases hb
   ·rw [if_neg hn] at hb
    cases j with
    | zero =>
      simp only [List.getElem?_cons_zero, Option.some.injEq] at h
      subst h
      intro e
      rw [Nat.add_zero] at e
      rw [e] at hn
      exact hn rfl
    | succ j =>
      rw [show b + (j + 1) = b + 1 + j by omega]
      exact badFrom_inv r (b + 1) hb j x (by simpa using h)
theorem badN_inv {ls : List (List UInt8)} (h : badN ls = none) : ∀ j x, ls[j]? = some x → lineN j x ≠ none := fun j x hx => by
 have := badFrom_inv ls 0 h j x hx
 rwa [Nat.zero_add] at this
theorem endsL_end (p : List UInt8) : endsL (p ++ [10]) = true := by simp [endsL]
theorem bodyL_end (p : List UInt8) : bodyL (p ++ [10]) = p := by
 unfold bodyL
 rw [if_pos (endsL_end p), List.dropLast_concat]
theorem endsL_free {p : List UInt8} (h : (10 : UInt8) ∉ p) : endsL p = false := by
 unfold endsL
 rw [beq_eq_false_iff_ne]
 exact fun e => h (List.mem_of_getLast? e)
theorem lineN_end (n : Nat) (p : List UInt8) : lineN n (p ++ [10]) = lineI (fldL n) (cntL n) (splitC 32 p) := by
 unfold lineN
 rw [if_pos (endsL_end p), bodyL_end]
theorem lineN_free {n : Nat} {p : List UInt8} (h : (10 : UInt8) ∉ p) : lineN n p = none := by
 unfold lineN
 rw [if_neg]
 rw [endsL_free h]
 simp
theorem polyN_snoc (ls : List (List UInt8)) (x : List UInt8) (j : Nat) : polyN (ls ++ [x]) j = if j = ls.length then (lineN j x).getD [] else polyN ls j := by
 unfold polyN
 by_cases h : j = ls.length
 ·subst h
  rw [if_pos rfl, List.getElem?_append_right (Nat.le_refl _)]
  simp
 ·rw [if_neg h]
  rcases Nat.lt_or_gt_of_ne h with h1 | h1
  ·rw [List.getElem?_append_left h1]
  ·rw [List.getElem?_eq_none (by simp; omega), List.getElem?_eq_none (by omega)]
theorem trnT_snoc {ls : List (List UInt8)} (h : ls ≠ []) (x : List UInt8) : trnT (ls ++ [x]) = trnT ls ++ [pairI ((lineN ls.length x).getD [])] := by
 obtain ⟨n, hn⟩ : ∃ n, ls.length = n + 1 := ⟨ls.length - 1, by have := List.length_pos_iff.2 h; omega⟩
 unfold trnT
 rw [List.length_append, List.length_singleton, hn, Nat.add_sub_cancel, Nat.add_sub_cancel, List.range_succ, List.map_append, List.map_cons, List.map_nil]
 congr 1
 ·apply List.map_congr_left
  intro k hk
  rw [polyN_snoc, if_neg (by have := List.mem_range.1 hk; omega)]
 ·rw [polyN_snoc, hn, if_pos rfl]
theorem ctlL_snoc {ls : List (List UInt8)} (h : ls ≠ []) (x : List UInt8) : ctlL (ls ++ [x]) = ctlL ls := by
 unfold ctlL
 rw [polyN_snoc, if_neg (by have := List.length_pos_iff.2 h; omega)]
theorem trnT_len (ls : List (List UInt8)) : (trnT ls).length = ls.length - 1 := by simp [trnT]
theorem lineI_some {wd : List UInt8} {c : Nat} {ws : List (List UInt8)} {l : List Int} (h : lineI wd c ws = some l) : ∃ r, ws = wd :: r ∧ r.length = c ∧ r.all digOk = true ∧ l = r.map valD := by
 cases ws with
 | nil => cases h
 | cons w r =>
   unfold lineI at h
   simp only at h
   by_cases hc : w = wd ∧ r.length = c ∧ r.all digOk = true
   ·rw [if_pos hc] at h
    cases h
    exact ⟨r, by rw [hc.1], hc.2.1, hc.2.2, rfl⟩
   ·rw [if_neg hc] at h; cases h
end
section
set_option linter.unusedSimpArgs false
set_option linter.unusedVariables false
open Go.RowKit
/-- the slice v has the cells us. -/
def Vals (w : World) (v : Value) (us : List Value) : Prop :=
 ∃ a cap, v = .slice a us.length cap ∧ us.length ≤ cap ∧ (0 < us.length → ∃ b off, a = some ⟨b, off, none⟩ ∧ ∀ j u, us[j]? = some u → w.cell? ⟨b, off + j, none⟩ = some u)
theorem Vals.carry {w w' : World} {v : Value} {us : List Value} (h : Vals w v us) (hb : Below w.heap.size w w') : Vals w' v us := by
 obtain ⟨a, cap, hv, hc, h⟩ := h
 refine ⟨a, cap, hv, hc, fun hl => ?_⟩
 obtain ⟨b, off, ha, h⟩ := h hl
 exact ⟨b, off, ha, fun j u hj => (hb.cell (p := ⟨b, off + j, none⟩) (lt_of_cellSome (h j u hj))).trans (h j u hj)⟩
theorem Vals.head {w : World} {v : Value} {us : List Value} (h : Vals w v us) (h0 : 0 < us.length) : ∃ b off cap, v = .slice (some ⟨b, off, none⟩) us.length cap ∧ ∀ j u, us[j]? = some u → w.cell? ⟨b, off + j, none⟩ = some u := by
 obtain ⟨a, cap, rfl, _, hc⟩ := h
 obtain ⟨b, off, rfl, hd⟩ := hc h0
 exact ⟨b, off, cap, rfl, hd⟩
theorem Vals.nil (w : World) : Vals w (.slice none 0 0) [] := ⟨none, 0, rfl, by simp, fun h => by simp at h⟩
theorem Vals.of_own {w : World} {base e : Nat} {v : Value} {us : List Value} (h : w.ownsRow base e 1 v us.length us) : Vals w v us := by
 obtain ⟨h1, h2⟩ := h
 rcases h2 with ⟨rfl, h2⟩ | ⟨g, cap, cur, rfl, hg, hh, hnc, hcap, hcs, htk⟩
 ·exact ⟨none, 0, by rw [h2], by omega, fun h => by omega⟩
 ·refine ⟨some ⟨g, 0, none⟩, cap, rfl, hnc, fun hl => ⟨g, 0, rfl, fun j u hj => ?_⟩⟩
  rw [Nat.mul_one] at htk
  rw [← htk, List.getElem?_take] at hj
  split at hj
  ·rw [Array.getElem?_toList] at hj
   simp [World.cell?, hh, hj]
  ·cases hj
theorem idxS (T : TypeId) (hT : Tryz.prog.underlying T = some .string) (s : ByteArray) (k : Nat) (hk : k < s.size) (W : World) :
 Sem.run Tryz.prog (Instr.index T (.string s) (.int .i64 (k : Int))) W = .ok (.int .u8 ((s.data.toList[k]?.getD 0).toNat : Int)) W := by
 rw [run_index_string (h := hT), dif_pos ⟨by omega, by omega⟩]
 have hk' : k < s.data.size := hk
 have : s[(k : Int).toNat]'(by simpa using hk) = s.data.toList[k]?.getD 0 := by
  simp only [Int.toNat_natCast]
  rw [List.getElem?_eq_getElem (by simpa using hk')]
  rfl
 rw [this]
set_option maxRecDepth 100000 in
set_option maxHeartbeats 2000000 in
theorem integer_any (s : ByteArray) (w : World) (hs : s.size ≤ 1000000) :
 Calls Tryz.prog 159 #[.string s] w fun e w' => (∃ v : Int, e = .returned (.tuple #[.int .i64 v, .bool (digOk s.data.toList)]) ∧ (digOk s.data.toList = true → v = valD s.data.toList)) ∧ Below w.heap.size w w' := by
 have HL := Lib.hid (data_len s)
 have hix := fun (k : Nat) (hk : k < s.size) W => idxS 9 Tryz.underlying9 s k hk W
 have hlo := fun (k : Nat) (hk : k < s.size) => next_lo w s k hk
 have hhi := fun (k : Nat) (hk : k < s.size) => next_hi w s k hk
 have hend := fun (k : Nat) (hk : ¬ k < s.size) ty => run_next_end (P := Tryz.prog) w s k ty hk
 have hibl := fun k => iter_below w s k
 have hse : s.toList.isEmpty = decide (s.data.toList.length = 0) := by
  rw [ByteArray.toList_eq]
  cases s.data.toList <;> rfl
 obtain ⟨L, hL⟩ : ∃ L, L = s.data.toList := ⟨_, rfl⟩
 rw [← hL] at HL hix hlo hhi hse ⊢
 have HIX := Lib.hid hix
 have HLO := Lib.hid hlo
 have HHI := Lib.hid hhi
 have HEND := Lib.hid hend
 have HIB := Lib.hid hibl
 clear hL hix hlo hhi hend hibl
 obtain ⟨n, hn⟩ : ∃ n, n = s.size := ⟨_, rfl⟩
 have hn' : s.size = n := hn.symm
 rw [HL.out, hn'] at hse
 rw [hn'] at HL HIX HLO HHI HEND hs
 clear hn
 by_cases h0 : n = 0
 ·have HR := Lib.hid (digOk_false (l := L) (.inl (by rw [HL.out]; exact h0)))
  have d0 : (n : Int) = 0 := by omega
  have hse0 : s.toList.isEmpty = true := by rw [hse]; exact decide_eq_true h0
  have hnx := HEND.out 0 (by omega)
  clear hse
  go_enter Tryz.func159, Tryz.ntmps159
  go_wp2
  go_loopw [4] (fun v wr => v = .int .i64 0 ∧ wr = w.iter s 0) (fun _ _ => 0)
  case atStart => exact ⟨rfl, rfl⟩
  case round =>
   obtain ⟨rfl, rfl⟩ := hrel
   go_upto_region 8 with fail
   have hbb := HIB.out 0
   obtain ⟨V, hV⟩ : ∃ V, V = w.iter s 0 := ⟨_, rfl⟩
   rw [← hV] at hbb ⊢
   clear hV
   refine wp_region_E 99 (by kernel_rfl) ?_
   obtain ⟨wz, hwz⟩ : ∃ v, v = V.drew := ⟨_, rfl⟩
   rw [← hwz]
   have hlz : Below V.heap.size V wz := by rw [hwz]; exact (Below.refl _ _).drew
   have hbz := bthen hbb hlz
   clear hwz hlz
   refine zV 0 ⟨some 29, .move (.tmp 4), 3, "plan.go:279", #[], none⟩ rfl ?_
   simp only [Act.put, zS]
   refine zV 1 ⟨some 30, .move (.tmp 0), 9, "plan.go:279", #[], none⟩ rfl ?_
   simp only [Act.put, zS]
   refine zV 2 ⟨some 31, .binOp .neq 9 (.tmp 30) (.const (.string { data := #[] })) 9, 4, "plan.go:279", #[⟨1, .data⟩], none⟩ rfl ?_
   simp only [Act.put, zS]
   refine zV 3 ⟨some 32, .move (.tmp 31), 4, "plan.go:279", #[⟨2, .data⟩], none⟩ rfl ?_
   simp only [Act.put, zS]
   refine zK 4 ⟨some 33, .move (.tmp 0), 9, "plan.go:279", #[⟨3, .guard⟩], some (3, true)⟩ rfl ?_
   simp only [Act.put, zS]
   refine zK 5 ⟨some 34, .call ⟨.builtin .len, #[.tmp 33], #[9]⟩, 3, "plan.go:279", #[⟨4, .data⟩, ⟨3, .guard⟩], some (3, true)⟩ rfl ?_
   simp only [Act.put, zS]
   refine zK 6 ⟨some 35, .binOp .eql 3 (.tmp 34) (.const (.int .i64 1)) 3, 4, "plan.go:279", #[⟨5, .data⟩, ⟨3, .guard⟩], some (3, true)⟩ rfl ?_
   simp only [Act.put, zS]
   refine zK 7 ⟨some 36, .move (.tmp 35), 4, "plan.go:279", #[⟨6, .data⟩, ⟨3, .chain⟩, ⟨3, .guard⟩], some (3, true)⟩ rfl ?_
   simp only [Act.put, zS]
   refine zK 8 ⟨some 37, .move (.tmp 0), 9, "plan.go:279", #[⟨7, .guard⟩, { on := 13, ground := Ground.gcOnly Departure.lateStores }], some (7, false)⟩ rfl ?_
   simp only [Act.put, zS]
   refine zK 9 ⟨some 38, .index 9 (.tmp 37) (.const (.int .i64 0)), 5, "plan.go:279", #[⟨8, .data⟩, ⟨7, .guard⟩, { on := 13, ground := Ground.gcOnly Departure.lateStores }], some (7, false)⟩ rfl ?_
   simp only [Act.put, zS]
   refine zK 10 ⟨some 39, .binOp .neq 5 (.tmp 38) (.const (.int .u8 48)) 5, 4, "plan.go:279", #[⟨9, .data⟩, ⟨7, .guard⟩, { on := 13, ground := Ground.gcOnly Departure.lateStores }], some (7, false)⟩ rfl ?_
   simp only [Act.put, zS]
   refine zK 11 ⟨some 40, .pick (.tmp 36) (.const (.bool true)) (.tmp 39), 4, "plan.go:279", #[⟨7, .data⟩, ⟨10, .data⟩, ⟨3, .guard⟩, { on := 13, ground := Ground.gcOnly Departure.lateStores }], some (3, true)⟩ rfl ?_
   simp only [Act.put, zS]
   refine zV 12 ⟨some 41, .pick (.tmp 32) (.tmp 40) (.const (.bool false)), 4, "plan.go:279", #[⟨3, .data⟩, ⟨11, .data⟩, { on := 13, ground := Ground.gcOnly Departure.lateStores }], none⟩ rfl ?_
   simp only [Act.put, zS]
   refine zV 13 ⟨some 2, .assign (.tmp 29), 3, "plan.go:279", #[⟨0, .data⟩, ⟨7, .chain⟩, ⟨0, .phase⟩, { on := 1, ground := Ground.textOnly Departure.lateStores }, { on := 2, ground := Ground.textOnly Departure.lateStores }, { on := 3, ground := Ground.textOnly Departure.lateStores }, { on := 4, ground := Ground.textOnly Departure.lateStores }, { on := 5, ground := Ground.textOnly Departure.lateStoresUnsure }, { on := 6, ground := Ground.textOnly Departure.lateStores }, { on := 7, ground := Ground.textOnly Departure.lateStores }, { on := 8, ground := Ground.textOnly Departure.lateStores }, { on := 9, ground := Ground.textOnly Departure.lateStores }, { on := 10, ground := Ground.textOnly Departure.lateStores }, { on := 11, ground := Ground.textOnly Departure.lateStores }, { on := 12, ground := Ground.textOnly Departure.lateStores }], none⟩ rfl ?_
   simp only [Act.put, zS]
   refine zV 14 ⟨some 3, .assign (.tmp 41), 4, "plan.go:279", #[⟨12, .data⟩, ⟨13, .chain⟩, ⟨0, .phase⟩, ⟨1, .phase⟩, ⟨2, .phase⟩, ⟨3, .phase⟩, ⟨4, .phase⟩, ⟨5, .phase⟩, ⟨6, .phase⟩, ⟨7, .phase⟩, ⟨8, .phase⟩, ⟨9, .phase⟩, ⟨10, .phase⟩, ⟨11, .phase⟩, ⟨12, .phase⟩, ⟨13, .phase⟩], none⟩ rfl ?_
   simp only [Act.put, zS]
   refine wpAnyE_done (by kernel_rfl) (fun wy1 hE => ?_) _
   have hbz1 := bthen hbz hE
   clear hE
   go_wp2_with fail
   go_ret2
   rw [HR.out]
   exact ⟨⟨_, rfl, fun h => by cases h⟩, by exact hbz1⟩
 have hse0 : s.toList.isEmpty = false := by rw [hse]; exact decide_eq_false h0
 clear hse
 by_cases h9 : 9 < n
 ·have HR := Lib.hid (digOk_false (l := L) (.inr (.inl (by rw [HL.out]; exact h9))))
  have d1 : 9 < (n : Int) := by omega
  go_enter Tryz.func159, Tryz.ntmps159
  go_wp2
  go_loopw [4] (fun v wr => v = .int .i64 0 ∧ wr = w.iter s 0) (fun _ _ => 0)
  case atStart => exact ⟨rfl, rfl⟩
  case round =>
   obtain ⟨rfl, rfl⟩ := hrel
   by_cases hc : (L[0]?.getD 0).toNat < 128
   ·have hnx := HLO.out 0 (by omega) hc
    generalize ((L[0]?.getD 0).toNat : Int) = c at hnx
    clear hc
    by_cases c1 : c < 48
    ·go_wp2
     go_ret2
     rw [HR.out]
     exact ⟨⟨_, rfl, fun h => by cases h⟩, HIB.out _⟩
    ·by_cases c2 : 57 < c
     ·go_wp2
      go_ret2
      rw [HR.out]
      exact ⟨⟨_, rfl, fun h => by cases h⟩, HIB.out _⟩
     ·go_wp2
      go_ret2
      rw [HR.out]
      exact ⟨⟨_, rfl, fun h => by cases h⟩, HIB.out _⟩
   ·obtain ⟨r, q, hr, hnx⟩ := HHI.out 0 (by omega) (by omega)
    clear hc
    by_cases c1 : r < 48
    ·omega
    ·go_wp2
     go_ret2
     rw [HR.out]
     exact ⟨⟨_, rfl, fun h => by cases h⟩, HIB.out _⟩
 have d1 : ¬ 9 < (n : Int) := by omega
 have H0 := Lib.hid h0
 have H9 := Lib.hid h9
 clear h0 h9
 go_enter Tryz.func159, Tryz.ntmps159
 go_wp2
 go_loopw [4] (fun v wr => ∃ k : Nat, k ≤ n ∧ v = .int .i64 (valD (L.take k)) ∧ (L.take k).all isD = true ∧ wr = w.iter s k) (fun _ wr => n - wr.iterPos w.heap.size)
 case atStart => exact ⟨0, by omega, rfl, rfl, rfl⟩
 case round =>
  obtain ⟨k, hk, rfl, ha, rfl⟩ := hrel
  have HA := Lib.hid ha
  clear ha
  by_cases hlt : k < n
  ·have HT := Lib.hid (take_snoc L k (by rw [HL.out]; exact hlt))
   have HB := Lib.hid (valD_9 (l := L.take k) (by rw [List.length_take, HL.out]; have := H9.out; omega) HA.out)
   have HBL := HLO.out k hlt
   have HBH := HHI.out k hlt
   have hgl : ∀ b : UInt8, L[k]?.getD 0 = b → isD b = false → digOk L = false := fun b hb h => digOk_false (.inr (.inr (.inr ⟨k, by rw [HL.out]; exact hlt, by rw [hb]; exact h⟩)))
   generalize hbb : L[k]?.getD 0 = b at HT HBL HBH
   have HC := Lib.hid (isD_iff b)
   have HZ := Lib.hid (hgl b hbb)
   have HV := Lib.hid (valD_snoc (L.take k) b)
   clear hgl hbb
   obtain ⟨v, hv⟩ : ∃ v, v = valD (L.take k) := ⟨_, rfl⟩
   rw [← hv] at HB HV ⊢
   clear hv
   have hb2 : 0 ≤ (b.toNat : Int) := by omega
   by_cases hc : b.toNat < 128
   ·have hnx := HBL hc
    clear HBL HBH
    by_cases hd : 48 ≤ (b.toNat : Int) ∧ (b.toNat : Int) ≤ 57
    ·have v0 : IntKind.i64.wrap (10 * v) = 10 * v := IntWalk.i64_in _ (by have := HB.out; omega)
     have HBD := Lib.hid (HC.out.2 (by omega))
     obtain ⟨c, hcc⟩ : ∃ c : Int, c = (b.toNat : Int) := ⟨_, rfl⟩
     rw [← hcc] at hnx hd hb2 HV
     clear hcc hc
     have c1 : ¬ c < 48 := by omega
     have c2 : ¬ 57 < c := by omega
     have v1 : IntKind.i32.wrap (c - 48) = c - 48 := IntWalk.i32_in _ (by omega)
     have v2 : IntKind.i64.wrap (c - 48) = c - 48 := IntWalk.i64_in _ (by omega)
     have v3 : IntKind.i64.wrap (10 * v + (c - 48)) = 10 * v + (c - 48) := IntWalk.i64_in _ (by have := HB.out; omega)
     clear hd
     go_wp2
     go_roundw
     case rel => exact ⟨k + 1, by omega, by rw [HT.out, HV.out], by rw [HT.out, List.all_append, HA.out]; simp [HBD.out], rfl⟩
     case measure => simp; omega
    ·have HR := Lib.hid (HZ.out (Bool.eq_false_iff.2 fun h => hd (by have := HC.out.1 h; omega)))
     generalize (b.toNat : Int) = c at hnx hd hb2
     clear hc
     by_cases c1 : c < 48
     ·clear hd
      go_wp2
      go_ret2
      rw [HR.out]
      exact ⟨⟨_, rfl, fun h => by cases h⟩, HIB.out _⟩
     ·have c2 : 57 < c := by omega
      clear hd
      go_wp2
      go_ret2
      rw [HR.out]
      exact ⟨⟨_, rfl, fun h => by cases h⟩, HIB.out _⟩
   ·have HR := Lib.hid (HZ.out (Bool.eq_false_iff.2 fun h => by have := HC.out.1 h; omega))
    obtain ⟨r, q, hr, hnx⟩ := HBH (by omega)
    clear HBL HBH hc
    have c1 : ¬ r < 48 := by omega
    go_wp2
    go_ret2
    rw [HR.out]
    exact ⟨⟨_, rfl, fun h => by cases h⟩, HIB.out _⟩
  ·obtain rfl : k = n := by omega
   have hta : L.take k = L := List.take_of_length_le (by rw [HL.out]; omega)
   rw [hta] at HA ⊢
   clear hta
   have hnx := HEND.out k (by omega)
   have HE := Lib.hid (fun (h : L.length = 1 ∨ L[0]?.getD 0 ≠ 48) => digOk_true (l := L) (by rw [HL.out]; exact H0.out) (by rw [HL.out]; have := H9.out; omega) h HA.out)
   have HF := Lib.hid (fun (h1 : k ≠ 1) (h : L[0]?.getD 0 = 48) => digOk_false (l := L) (.inr (.inr (.inl ⟨by rw [HL.out]; exact h1, h⟩))))
   have e0 := HIX.out 0 (by have := H0.out; omega)
   by_cases h1 : k = 1
   ·have HR := Lib.hid (HE.out (.inl (by rw [HL.out]; exact h1)))
    have d2 : (k : Int) = 1 := by omega
    have d3 : ((k : Int) == 1) = true := by simpa using d2
    clear e0 h1
    go_upto_region 8 with fail
    have hbb := HIB.out k
    obtain ⟨V, hV⟩ : ∃ V, V = w.iter s k := ⟨_, rfl⟩
    rw [← hV] at hbb ⊢
    clear hV
    refine wp_region_E 99 (by kernel_rfl) ?_
    obtain ⟨wz, hwz⟩ : ∃ v, v = V.drew := ⟨_, rfl⟩
    rw [← hwz]
    have hlz : Below V.heap.size V wz := by rw [hwz]; exact (Below.refl _ _).drew
    have hbz := bthen hbb hlz
    clear hwz hlz
    refine zV 0 ⟨some 29, .move (.tmp 4), 3, "plan.go:279", #[], none⟩ rfl ?_
    simp only [Act.put, zS]
    refine zV 1 ⟨some 30, .move (.tmp 0), 9, "plan.go:279", #[], none⟩ rfl ?_
    simp only [Act.put, zS]
    refine zV 2 ⟨some 31, .binOp .neq 9 (.tmp 30) (.const (.string { data := #[] })) 9, 4, "plan.go:279", #[⟨1, .data⟩], none⟩ rfl ?_
    simp only [Act.put, zS]
    refine zV 3 ⟨some 32, .move (.tmp 31), 4, "plan.go:279", #[⟨2, .data⟩], none⟩ rfl ?_
    simp only [Act.put, zS]
    refine zV 4 ⟨some 33, .move (.tmp 0), 9, "plan.go:279", #[⟨3, .guard⟩], some (3, true)⟩ rfl ?_
    simp only [Act.put, zS]
    refine zV 5 ⟨some 34, .call ⟨.builtin .len, #[.tmp 33], #[9]⟩, 3, "plan.go:279", #[⟨4, .data⟩, ⟨3, .guard⟩], some (3, true)⟩ rfl ?_
    simp only [Act.put, zS]
    refine zV 6 ⟨some 35, .binOp .eql 3 (.tmp 34) (.const (.int .i64 1)) 3, 4, "plan.go:279", #[⟨5, .data⟩, ⟨3, .guard⟩], some (3, true)⟩ rfl ?_
    simp only [Act.put, zS]
    refine zV 7 ⟨some 36, .move (.tmp 35), 4, "plan.go:279", #[⟨6, .data⟩, ⟨3, .chain⟩, ⟨3, .guard⟩], some (3, true)⟩ rfl ?_
    simp only [Act.put, zS]
    refine zK 8 ⟨some 37, .move (.tmp 0), 9, "plan.go:279", #[⟨7, .guard⟩, { on := 13, ground := Ground.gcOnly Departure.lateStores }], some (7, false)⟩ rfl ?_
    simp only [Act.put, zS]
    refine zK 9 ⟨some 38, .index 9 (.tmp 37) (.const (.int .i64 0)), 5, "plan.go:279", #[⟨8, .data⟩, ⟨7, .guard⟩, { on := 13, ground := Ground.gcOnly Departure.lateStores }], some (7, false)⟩ rfl ?_
    simp only [Act.put, zS]
    refine zK 10 ⟨some 39, .binOp .neq 5 (.tmp 38) (.const (.int .u8 48)) 5, 4, "plan.go:279", #[⟨9, .data⟩, ⟨7, .guard⟩, { on := 13, ground := Ground.gcOnly Departure.lateStores }], some (7, false)⟩ rfl ?_
    simp only [Act.put, zS]
    refine zV 11 ⟨some 40, .pick (.tmp 36) (.const (.bool true)) (.tmp 39), 4, "plan.go:279", #[⟨7, .data⟩, ⟨10, .data⟩, ⟨3, .guard⟩, { on := 13, ground := Ground.gcOnly Departure.lateStores }], some (3, true)⟩ rfl ?_
    simp only [Act.put, zS]
    refine zV 12 ⟨some 41, .pick (.tmp 32) (.tmp 40) (.const (.bool false)), 4, "plan.go:279", #[⟨3, .data⟩, ⟨11, .data⟩, { on := 13, ground := Ground.gcOnly Departure.lateStores }], none⟩ rfl ?_
    simp only [Act.put, zS]
    refine zV 13 ⟨some 2, .assign (.tmp 29), 3, "plan.go:279", #[⟨0, .data⟩, ⟨7, .chain⟩, ⟨0, .phase⟩, { on := 1, ground := Ground.textOnly Departure.lateStores }, { on := 2, ground := Ground.textOnly Departure.lateStores }, { on := 3, ground := Ground.textOnly Departure.lateStores }, { on := 4, ground := Ground.textOnly Departure.lateStores }, { on := 5, ground := Ground.textOnly Departure.lateStoresUnsure }, { on := 6, ground := Ground.textOnly Departure.lateStores }, { on := 7, ground := Ground.textOnly Departure.lateStores }, { on := 8, ground := Ground.textOnly Departure.lateStores }, { on := 9, ground := Ground.textOnly Departure.lateStores }, { on := 10, ground := Ground.textOnly Departure.lateStores }, { on := 11, ground := Ground.textOnly Departure.lateStores }, { on := 12, ground := Ground.textOnly Departure.lateStores }], none⟩ rfl ?_
    simp only [Act.put, zS]
    refine zV 14 ⟨some 3, .assign (.tmp 41), 4, "plan.go:279", #[⟨12, .data⟩, ⟨13, .chain⟩, ⟨0, .phase⟩, ⟨1, .phase⟩, ⟨2, .phase⟩, ⟨3, .phase⟩, ⟨4, .phase⟩, ⟨5, .phase⟩, ⟨6, .phase⟩, ⟨7, .phase⟩, ⟨8, .phase⟩, ⟨9, .phase⟩, ⟨10, .phase⟩, ⟨11, .phase⟩, ⟨12, .phase⟩, ⟨13, .phase⟩], none⟩ rfl ?_
    simp only [Act.put, zS]
    refine wpAnyE_done (by kernel_rfl) (fun wy1 hE => ?_) _
    have hbz1 := bthen hbz hE
    clear hE
    go_wp2_with fail
    go_ret2
    rw [HR.out]
    exact ⟨⟨_, rfl, fun h => rfl⟩, by exact hbz1⟩
   ·have d2 : (k : Int) ≠ 1 := by omega
    have d3 : ((k : Int) == 1) = false := by simpa using d2
    have HF1 := Lib.hid (HF.out h1)
    clear h1
    by_cases h48 : L[0]?.getD 0 = 48
    ·have HR := Lib.hid (HF1.out h48)
     rw [h48] at e0
     have e0' : ∀ W, Sem.run Tryz.prog (Instr.index 9 (.string s) (.int .i64 0)) W = .ok (.int .u8 48) W := e0
     clear e0 h48
     go_upto_region 8 with fail
     have hbb := HIB.out k
     obtain ⟨V, hV⟩ : ∃ V, V = w.iter s k := ⟨_, rfl⟩
     rw [← hV] at hbb ⊢
     clear hV
     refine wp_region_E 99 (by kernel_rfl) ?_
     obtain ⟨wz, hwz⟩ : ∃ v, v = V.drew := ⟨_, rfl⟩
     rw [← hwz]
     have hlz : Below V.heap.size V wz := by rw [hwz]; exact (Below.refl _ _).drew
     have hbz := bthen hbb hlz
     clear hwz hlz
     refine zV 0 ⟨some 29, .move (.tmp 4), 3, "plan.go:279", #[], none⟩ rfl ?_
     simp only [Act.put, zS]
     refine zV 1 ⟨some 30, .move (.tmp 0), 9, "plan.go:279", #[], none⟩ rfl ?_
     simp only [Act.put, zS]
     refine zV 2 ⟨some 31, .binOp .neq 9 (.tmp 30) (.const (.string { data := #[] })) 9, 4, "plan.go:279", #[⟨1, .data⟩], none⟩ rfl ?_
     simp only [Act.put, zS]
     refine zV 3 ⟨some 32, .move (.tmp 31), 4, "plan.go:279", #[⟨2, .data⟩], none⟩ rfl ?_
     simp only [Act.put, zS]
     refine zV 4 ⟨some 33, .move (.tmp 0), 9, "plan.go:279", #[⟨3, .guard⟩], some (3, true)⟩ rfl ?_
     simp only [Act.put, zS]
     refine zV 5 ⟨some 34, .call ⟨.builtin .len, #[.tmp 33], #[9]⟩, 3, "plan.go:279", #[⟨4, .data⟩, ⟨3, .guard⟩], some (3, true)⟩ rfl ?_
     simp only [Act.put, zS]
     refine zV 6 ⟨some 35, .binOp .eql 3 (.tmp 34) (.const (.int .i64 1)) 3, 4, "plan.go:279", #[⟨5, .data⟩, ⟨3, .guard⟩], some (3, true)⟩ rfl ?_
     simp only [Act.put, zS]
     refine zV 7 ⟨some 36, .move (.tmp 35), 4, "plan.go:279", #[⟨6, .data⟩, ⟨3, .chain⟩, ⟨3, .guard⟩], some (3, true)⟩ rfl ?_
     simp only [Act.put, zS]
     refine zV 8 ⟨some 37, .move (.tmp 0), 9, "plan.go:279", #[⟨7, .guard⟩, { on := 13, ground := Ground.gcOnly Departure.lateStores }], some (7, false)⟩ rfl ?_
     simp only [Act.put, zS]
     refine zV 9 ⟨some 38, .index 9 (.tmp 37) (.const (.int .i64 0)), 5, "plan.go:279", #[⟨8, .data⟩, ⟨7, .guard⟩, { on := 13, ground := Ground.gcOnly Departure.lateStores }], some (7, false)⟩ rfl ?_
     simp only [Act.put, zS]
     refine zV 10 ⟨some 39, .binOp .neq 5 (.tmp 38) (.const (.int .u8 48)) 5, 4, "plan.go:279", #[⟨9, .data⟩, ⟨7, .guard⟩, { on := 13, ground := Ground.gcOnly Departure.lateStores }], some (7, false)⟩ rfl ?_
     simp only [Act.put, zS]
     refine zV 11 ⟨some 40, .pick (.tmp 36) (.const (.bool true)) (.tmp 39), 4, "plan.go:279", #[⟨7, .data⟩, ⟨10, .data⟩, ⟨3, .guard⟩, { on := 13, ground := Ground.gcOnly Departure.lateStores }], some (3, true)⟩ rfl ?_
     simp only [Act.put, zS]
     refine zV 12 ⟨some 41, .pick (.tmp 32) (.tmp 40) (.const (.bool false)), 4, "plan.go:279", #[⟨3, .data⟩, ⟨11, .data⟩, { on := 13, ground := Ground.gcOnly Departure.lateStores }], none⟩ rfl ?_
     simp only [Act.put, zS]
     refine zV 13 ⟨some 2, .assign (.tmp 29), 3, "plan.go:279", #[⟨0, .data⟩, ⟨7, .chain⟩, ⟨0, .phase⟩, { on := 1, ground := Ground.textOnly Departure.lateStores }, { on := 2, ground := Ground.textOnly Departure.lateStores }, { on := 3, ground := Ground.textOnly Departure.lateStores }, { on := 4, ground := Ground.textOnly Departure.lateStores }, { on := 5, ground := Ground.textOnly Departure.lateStoresUnsure }, { on := 6, ground := Ground.textOnly Departure.lateStores }, { on := 7, ground := Ground.textOnly Departure.lateStores }, { on := 8, ground := Ground.textOnly Departure.lateStores }, { on := 9, ground := Ground.textOnly Departure.lateStores }, { on := 10, ground := Ground.textOnly Departure.lateStores }, { on := 11, ground := Ground.textOnly Departure.lateStores }, { on := 12, ground := Ground.textOnly Departure.lateStores }], none⟩ rfl ?_
     simp only [Act.put, zS]
     refine zV 14 ⟨some 3, .assign (.tmp 41), 4, "plan.go:279", #[⟨12, .data⟩, ⟨13, .chain⟩, ⟨0, .phase⟩, ⟨1, .phase⟩, ⟨2, .phase⟩, ⟨3, .phase⟩, ⟨4, .phase⟩, ⟨5, .phase⟩, ⟨6, .phase⟩, ⟨7, .phase⟩, ⟨8, .phase⟩, ⟨9, .phase⟩, ⟨10, .phase⟩, ⟨11, .phase⟩, ⟨12, .phase⟩, ⟨13, .phase⟩], none⟩ rfl ?_
     simp only [Act.put, zS]
     refine wpAnyE_done (by kernel_rfl) (fun wy1 hE => ?_) _
     have hbz1 := bthen hbz hE
     clear hE
     go_wp2_with fail
     go_ret2
     rw [HR.out]
     exact ⟨⟨_, rfl, fun h => by cases h⟩, by exact hbz1⟩
    ·have HR := Lib.hid (HE.out (.inr h48))
     have d4 : ((L[0]?.getD 0).toNat : Int) ≠ 48 := fun h => h48 (UInt8.toNat.inj (by rw [show (48 : UInt8).toNat = 48 from rfl]; omega))
     generalize ((L[0]?.getD 0).toNat : Int) = c0 at e0 d4
     have d5 : (c0 == 48) = false := by simpa using d4
     have d6 : (c0 != 48) = true := by simpa using d4
     have e0' : ∀ W, Sem.run Tryz.prog (Instr.index 9 (.string s) (.int .i64 0)) W = .ok (.int .u8 c0) W := e0
     clear e0 h48
     go_upto_region 8 with fail
     have hbb := HIB.out k
     obtain ⟨V, hV⟩ : ∃ V, V = w.iter s k := ⟨_, rfl⟩
     rw [← hV] at hbb ⊢
     clear hV
     refine wp_region_E 99 (by kernel_rfl) ?_
     obtain ⟨wz, hwz⟩ : ∃ v, v = V.drew := ⟨_, rfl⟩
     rw [← hwz]
     have hlz : Below V.heap.size V wz := by rw [hwz]; exact (Below.refl _ _).drew
     have hbz := bthen hbb hlz
     clear hwz hlz
     refine zV 0 ⟨some 29, .move (.tmp 4), 3, "plan.go:279", #[], none⟩ rfl ?_
     simp only [Act.put, zS]
     refine zV 1 ⟨some 30, .move (.tmp 0), 9, "plan.go:279", #[], none⟩ rfl ?_
     simp only [Act.put, zS]
     refine zV 2 ⟨some 31, .binOp .neq 9 (.tmp 30) (.const (.string { data := #[] })) 9, 4, "plan.go:279", #[⟨1, .data⟩], none⟩ rfl ?_
     simp only [Act.put, zS]
     refine zV 3 ⟨some 32, .move (.tmp 31), 4, "plan.go:279", #[⟨2, .data⟩], none⟩ rfl ?_
     simp only [Act.put, zS]
     refine zV 4 ⟨some 33, .move (.tmp 0), 9, "plan.go:279", #[⟨3, .guard⟩], some (3, true)⟩ rfl ?_
     simp only [Act.put, zS]
     refine zV 5 ⟨some 34, .call ⟨.builtin .len, #[.tmp 33], #[9]⟩, 3, "plan.go:279", #[⟨4, .data⟩, ⟨3, .guard⟩], some (3, true)⟩ rfl ?_
     simp only [Act.put, zS]
     refine zV 6 ⟨some 35, .binOp .eql 3 (.tmp 34) (.const (.int .i64 1)) 3, 4, "plan.go:279", #[⟨5, .data⟩, ⟨3, .guard⟩], some (3, true)⟩ rfl ?_
     simp only [Act.put, zS]
     refine zV 7 ⟨some 36, .move (.tmp 35), 4, "plan.go:279", #[⟨6, .data⟩, ⟨3, .chain⟩, ⟨3, .guard⟩], some (3, true)⟩ rfl ?_
     simp only [Act.put, zS]
     refine zV 8 ⟨some 37, .move (.tmp 0), 9, "plan.go:279", #[⟨7, .guard⟩, { on := 13, ground := Ground.gcOnly Departure.lateStores }], some (7, false)⟩ rfl ?_
     simp only [Act.put, zS]
     refine zV 9 ⟨some 38, .index 9 (.tmp 37) (.const (.int .i64 0)), 5, "plan.go:279", #[⟨8, .data⟩, ⟨7, .guard⟩, { on := 13, ground := Ground.gcOnly Departure.lateStores }], some (7, false)⟩ rfl ?_
     simp only [Act.put, zS]
     refine zV 10 ⟨some 39, .binOp .neq 5 (.tmp 38) (.const (.int .u8 48)) 5, 4, "plan.go:279", #[⟨9, .data⟩, ⟨7, .guard⟩, { on := 13, ground := Ground.gcOnly Departure.lateStores }], some (7, false)⟩ rfl ?_
     simp only [Act.put, zS]
     refine zV 11 ⟨some 40, .pick (.tmp 36) (.const (.bool true)) (.tmp 39), 4, "plan.go:279", #[⟨7, .data⟩, ⟨10, .data⟩, ⟨3, .guard⟩, { on := 13, ground := Ground.gcOnly Departure.lateStores }], some (3, true)⟩ rfl ?_
     simp only [Act.put, zS]
     refine zV 12 ⟨some 41, .pick (.tmp 32) (.tmp 40) (.const (.bool false)), 4, "plan.go:279", #[⟨3, .data⟩, ⟨11, .data⟩, { on := 13, ground := Ground.gcOnly Departure.lateStores }], none⟩ rfl ?_
     simp only [Act.put, zS]
     refine zV 13 ⟨some 2, .assign (.tmp 29), 3, "plan.go:279", #[⟨0, .data⟩, ⟨7, .chain⟩, ⟨0, .phase⟩, { on := 1, ground := Ground.textOnly Departure.lateStores }, { on := 2, ground := Ground.textOnly Departure.lateStores }, { on := 3, ground := Ground.textOnly Departure.lateStores }, { on := 4, ground := Ground.textOnly Departure.lateStores }, { on := 5, ground := Ground.textOnly Departure.lateStoresUnsure }, { on := 6, ground := Ground.textOnly Departure.lateStores }, { on := 7, ground := Ground.textOnly Departure.lateStores }, { on := 8, ground := Ground.textOnly Departure.lateStores }, { on := 9, ground := Ground.textOnly Departure.lateStores }, { on := 10, ground := Ground.textOnly Departure.lateStores }, { on := 11, ground := Ground.textOnly Departure.lateStores }, { on := 12, ground := Ground.textOnly Departure.lateStores }], none⟩ rfl ?_
     simp only [Act.put, zS]
     refine zV 14 ⟨some 3, .assign (.tmp 41), 4, "plan.go:279", #[⟨12, .data⟩, ⟨13, .chain⟩, ⟨0, .phase⟩, ⟨1, .phase⟩, ⟨2, .phase⟩, ⟨3, .phase⟩, ⟨4, .phase⟩, ⟨5, .phase⟩, ⟨6, .phase⟩, ⟨7, .phase⟩, ⟨8, .phase⟩, ⟨9, .phase⟩, ⟨10, .phase⟩, ⟨11, .phase⟩, ⟨12, .phase⟩, ⟨13, .phase⟩], none⟩ rfl ?_
     simp only [Act.put, zS]
     refine wpAnyE_done (by kernel_rfl) (fun wy1 hE => ?_) _
     have hbz1 := bthen hbz hE
     clear hE
     go_wp2_with fail
     go_ret2
     rw [HR.out]
     exact ⟨⟨_, rfl, fun h => rfl⟩, by exact hbz1⟩
theorem exec_add {P : Program} {ρ : Operand → Value} {o : Oper} {t t2 : TypeId} {x y : Operand} {v : Value} {w : World} (hop : o.op = Op.binOp .add t x y t2) (h : Sem.run P (binOp .add t (ρ x) (ρ y)) w = .ok v w) : (execOp ρ o).run P w = .ok (.value v) w := by
 unfold execOp
 simp [hop, h, eqGuard, Result.andThen]
/-- a row of texts of the call's own. -/
def OwnT (base : Nat) (W : World) (v : Value) (ps : List (List UInt8)) : Prop := W.ownsRow base 9 1 v ps.length (ps.map strV)
theorem OwnT.carry {base : Nat} {W W' : World} {v : Value} {ps : List (List UInt8)} (h : OwnT base W v ps) (hb : Below W.heap.size W W') : OwnT base W' v ps := own_below h hb
theorem catS2 (T : TypeId) (x y : ByteArray) (W : World) (h : x.size + y.size ≤ 1000000000) : Sem.run Tryz.prog (binOp .add T (.string x) (.string y)) W = .ok (.string (x ++ y)) W := by
 have h2 : ¬ (9223372036854775807 < x.size + y.size) := by omega
 go_simp
theorem OwnT.set {base g cp : Nat} {W : World} {q : List (List UInt8)} {p : List UInt8} (h : OwnT base W (.slice (some ⟨g, 0, none⟩) (q.length + 1) cp) (q ++ [p])) (r : List UInt8) :
 OwnT base (W.setCell ⟨g, q.length, none⟩ (strV r)) (.slice (some ⟨g, 0, none⟩) (q.length + 1) cp) (q ++ [r]) := by
 unfold OwnT at h ⊢
 have h1 : (q ++ [p]).length = q.length + 1 := by simp
 have h2 : (q ++ [r]).length = q.length + 1 := by simp
 rw [h1] at h
 rw [h2]
 have := (h.stored q.length (strV r)).1
 rw [List.map_append] at this ⊢
 simpa using this
set_option maxRecDepth 100000 in
set_option maxHeartbeats 4000000 in
theorem Split_any (s : ByteArray) (c : UInt8) (w : World) (hs : s.size ≤ 1000000) :
 Calls Tryz.prog 16 #[.string s, .int .u8 (c.toNat : Int)] w fun e w' => (∃ u, e = .returned u ∧ OwnT w.heap.size w' u (splitC c s.data.toList)) ∧ Below w.heap.size w w' := by
 have HL := Lib.hid (data_len s)
 have hix := fun (k : Nat) (hk : k < s.size) W => idxS 9 Tryz.underlying9 s k hk W
 have hgr := fun (k : Nat) (hk : k < s.size) p => growAt s k hk p
 obtain ⟨L, hL⟩ : ∃ L, L = s.data.toList := ⟨_, rfl⟩
 rw [← hL] at HL hix hgr ⊢
 have HIX := Lib.hid hix
 have HGR := Lib.hid hgr
 clear hL hix hgr
 obtain ⟨n, hn⟩ : ∃ n, n = s.size := ⟨_, rfl⟩
 have hn' : s.size = n := hn.symm
 rw [hn'] at HL HIX HGR hs
 clear hn
 obtain ⟨i0, hi, hz0, hz1, hz2⟩ := info_parts Tryz.infZstring
 have HC := Lib.hid (show ∀ b : UInt8, (b.toNat : Int) = (c.toNat : Int) → b = c from fun b h => UInt8.toNat.inj (by omega))
 go_enter Tryz.func16, Tryz.ntmps16
 go_wp2
 have hx := below_new w (Obj.cells #[Value.string ⟨#[]⟩] 9)
 have ho : OwnT w.heap.size (w.alloc (Obj.cells #[Value.string ⟨#[]⟩] 9)) (.slice (some ⟨w.heap.size, 0, none⟩) 1 1) (splitC c (L.take 0)) := World.ownsRow_lit w #[Value.string ⟨#[]⟩] 1 (Nat.le_refl _) (by unfold maxLen; omega) rfl
 go_loopw [5, 6] (fun v i wr => ∃ k : Nat, k ≤ n ∧ i = .int .i64 k ∧ OwnT w.heap.size wr v (splitC c (L.take k)) ∧ Below w.heap.size w wr) (fun _ i _ => n - (intOf i).toNat)
 case atStart => exact ⟨0, by omega, rfl, ho, hx⟩
 case round =>
  clear hx ho
  obtain ⟨k, hk, rfl, hown, hx⟩ := hrel
  by_cases hlt : k < n
  ·have e1 := HIX.out k hlt
   have HT := Lib.hid (take_snoc L k (by rw [HL.out]; exact hlt))
   have HG := Lib.hid (HGR.out k hlt)
   have HLN := Lib.hid (splitC_length c (L.take k))
   have HCN := Lib.hid (show (L.take k).count c ≤ k from Nat.le_trans List.count_le_length (by rw [List.length_take]; omega))
   generalize L[k]?.getD 0 = b at e1 HT HG
   have HSN := Lib.hid (splitC_snoc c b (L.take k))
   have HNE := Lib.hid (splitC_ne c (L.take k))
   obtain ⟨ps, hps⟩ : ∃ ps, ps = splitC c (L.take k) := ⟨_, rfl⟩
   rw [← hps] at HLN HSN HNE hown
   clear hps
   have hpl : ps.length ≤ 1000001 := by have := HLN.out; have := HCN.out; omega
   by_cases hb : b = c
   ·subst hb
    have HNX : OwnT w.heap.size = OwnT w.heap.size := rfl
    clear HNX
    go_wp2_with (at_builtin; refine wpList_append_own _ rfl _ _ 44 rfl w.heap.size 9 i0 (.string ⟨#[]⟩) 1 16 Tryz.underlying44 hi hz0 hz1 hz2 rfl (by decide) _ _ _ rfl (hown.alloc _) ⟨wr.heap.size, 0, none⟩ 1 1 [.string ⟨#[]⟩] rfl rfl (cell_one_new _ _ _) (by simp [Value.oneCell']) (by unfold maxLen; omega) (by omega) (by have := hx.size; simp; omega) ?_; intro v' w1 hown' hgrow hfrozen)
    have hx' := below_own hx hown hgrow
    have hown2 : OwnT w.heap.size w1 v' (splitC b (L.take (k + 1))) := by
     rw [HT.out, HSN.out, if_pos rfl]
     unfold OwnT
     rw [List.length_append, List.map_append]
     exact hown'
    clear hown hown' hgrow hfrozen hx
    go_wp2
    go_roundw
    case rel => exact ⟨k + 1, by omega, by go_num, hown2, hx'⟩
    case measure => simp [intOf]; omega
   ·have d0 : ((b.toNat : Int) == (c.toNat : Int)) = false := by
     rw [beq_eq_false_iff_ne]; exact fun h => hb (HC.out b h)
    have d1 : (b.toNat : Int) ≠ (c.toNat : Int) := fun h => hb (HC.out b h)
    obtain ⟨q, p, rfl⟩ := concat_of_ne HNE.out
    have HSN2 := Lib.hid (show splitC c (L.take (k + 1)) = q ++ [p ++ [b]] by rw [HT.out, HSN.out, if_neg hb, growLast_concat])
    have hg := HG.out p
    clear hb
    have HLN2 := Lib.hid (show (q ++ [p]).length = q.length + 1 by simp)
    obtain ⟨g, cp, hv⟩ : ∃ g cp, u5 = .slice (some ⟨g, 0, none⟩) (q.length + 1) cp := ownsRow_succ (by unfold OwnT at hown; rw [HLN2.out] at hown; exact hown)
    subst hv
    have hown0 : wr.ownsRow w.heap.size 9 1 (.slice (some ⟨g, 0, none⟩) (q.length + 1) cp) (q.length + 1) ((q ++ [p]).map strV) := by unfold OwnT at hown; rw [HLN2.out] at hown; exact hown
    have hge : w.heap.size ≤ g := (hown0.lt g rfl).1
    have hql : q.length ≤ 1000000 := by have := HLN2.out; omega
    have c0 : wr.cell? ⟨g, q.length, none⟩ = some (.string ⟨p.toArray⟩) := by rw [hown0.cellAt q.length (by omega)]; simp
    have v0 : IntKind.i64.wrap (((q.length + 1 : Nat) : Int) - 1) = (q.length : Int) := (IntWalk.i64_in _ (by omega)).trans (by omega)
    have v2 : IntKind.i64.wrap (q.length : Int) = (q.length : Int) := IntWalk.i64_in _ (by omega)
    have v1 : IntKind.i64.wrap ((k : Int) + 1) = ((k + 1 : Nat) : Int) := (IntWalk.i64_in _ (by omega)).trans (by omega)
    have d3 : (q.length : Int) < (q.length : Int) + 1 := by omega
    have d4 : (k : Int) ≤ (k : Int) + 1 := by omega
    have d5 : (k : Int) + 1 ≤ (n : Int) := by omega
    have d6 : 0 ≤ (k : Int) := by omega
    obtain ⟨z, hz⟩ : ∃ z : ByteArray, z = ⟨(p ++ [b]).toArray⟩ := ⟨_, rfl⟩
    rw [← hz] at hg
    have hpz : p.length ≤ 1000000 := by
     have h1 := splitC_len c (L.take (k + 1)) (p ++ [b]) (by rw [HSN2.out]; exact List.mem_append_right _ (List.mem_singleton.2 rfl))
     rw [List.length_append, List.length_singleton, List.length_take] at h1
     omega
    have hcat : ∀ W, Sem.run Tryz.prog (binOp .add 9 (.string ⟨p.toArray⟩) (.string (s.extract k (k + 1)))) W = .ok (.string z) W := fun W => by
     have h3 : (s.extract k (k + 1)).size ≤ 1 := by rw [ByteArray.size_extract]; omega
     rw [← hg]
     exact catS2 _ _ _ _ (by rw [mk_size]; omega)
    have HZ := Lib.hid hz
    clear hz hg hown0 hpz
    go_upto_region 7 with fail
    refine wp_region_E 17 (by kernel_rfl) ?_
    obtain ⟨wz, hwz⟩ : ∃ v, v = wr.drew := ⟨_, rfl⟩
    rw [← hwz]
    have hlz : Below wr.heap.size wr wz := by rw [hwz]; exact (Below.refl _ _).drew
    have hbz := bthen hx hlz
    have c0 := cellb c0 hlz
    have hown := hown.carry hlz
    clear hwz hlz
    refine zV 0 ⟨some 22, .move (.tmp 5), 44, "words.go:56", #[], none⟩ rfl ?_
    simp only [Act.put, zS]
    refine zV 1 ⟨some 23, .move (.tmp 5), 44, "words.go:56", #[], none⟩ rfl ?_
    simp only [Act.put, zS]
    refine zV 2 ⟨some 24, .call ⟨.builtin .len, #[.tmp 23], #[44]⟩, 3, "words.go:56", #[⟨1, .data⟩], none⟩ rfl ?_ (hv := fun w hE => by have c0 := cellb c0 hE; (try dsimp only); go_simp; try rfl)
    simp only [Act.put, zS]
    refine zV 3 ⟨some 25, .binOp .sub 3 (.tmp 24) (.const (.int .i64 1)) 3, 3, "words.go:56", #[⟨2, .data⟩], none⟩ rfl ?_
    simp only [Act.put, zS]
    refine zV 4 ⟨some 26, .move (.tmp 5), 44, "words.go:56", #[], none⟩ rfl ?_
    simp only [Act.put, zS]
    refine zV 5 ⟨some 27, .move (.tmp 5), 44, "words.go:56", #[], none⟩ rfl ?_
    simp only [Act.put, zS]
    refine zV 6 ⟨some 28, .call ⟨.builtin .len, #[.tmp 27], #[44]⟩, 3, "words.go:56", #[⟨5, .data⟩], none⟩ rfl ?_ (hv := fun w hE => by have c0 := cellb c0 hE; (try dsimp only); go_simp; try rfl)
    simp only [Act.put, zS]
    refine zV 7 ⟨some 29, .binOp .sub 3 (.tmp 28) (.const (.int .i64 1)) 3, 3, "words.go:56", #[⟨6, .data⟩], none⟩ rfl ?_
    simp only [Act.put, zS]
    refine zV 8 ⟨some 30, .indexAddr 44 (.tmp 26) (.tmp 29), 0, "words.go:56", #[⟨4, .data⟩, ⟨7, .data⟩], none⟩ rfl ?_
    simp only [Act.put, zS]
    refine zV 9 ⟨some 31, .load 9 (.tmp 30), 9, "words.go:56", #[⟨8, .data⟩], none⟩ rfl ?_ (hv := fun w hE => by have c0 := cellb c0 hE; (try dsimp only); go_simp; try rfl)
    simp only [Act.put, zS]
    refine zV 10 ⟨some 32, .move (.tmp 0), 9, "words.go:56", #[], none⟩ rfl ?_
    simp only [Act.put, zS]
    refine zV 11 ⟨some 33, .move (.tmp 6), 3, "words.go:56", #[], none⟩ rfl ?_
    simp only [Act.put, zS]
    refine zV 12 ⟨some 34, .move (.tmp 6), 3, "words.go:56", #[], none⟩ rfl ?_
    simp only [Act.put, zS]
    refine zV 13 ⟨some 35, .binOp .add 3 (.tmp 34) (.const (.int .i64 1)) 3, 3, "words.go:56", #[⟨12, .data⟩], none⟩ rfl ?_
    simp only [Act.put, zS]
    refine zV 14 ⟨some 36, .slice 9 (.tmp 32) (some (.tmp 33)) (some (.tmp 35)) none, 9, "words.go:56", #[⟨10, .data⟩, ⟨11, .data⟩, ⟨13, .data⟩], none⟩ rfl ?_ (hv := fun w hE => by have c0 := cellb c0 hE; (try dsimp only); go_simp; try rfl)
    simp only [Act.put, zS]
    refine zV 15 ⟨some 37, .binOp .add 9 (.tmp 31) (.tmp 36) 9, 9, "words.go:56", #[⟨9, .data⟩, ⟨14, .data⟩], none⟩ rfl ?_ (hv := fun w hE => by have c0 := cellb c0 hE; (try dsimp only); refine Eq.trans (exec_add (v := .string z) rfl (hcat w)) ?_; try rfl)
    simp only [Act.put, zS]
    refine zV 16 ⟨some 38, .indexAddr 44 (.tmp 22) (.tmp 25), 0, "words.go:56", #[⟨0, .data⟩, ⟨3, .data⟩, ⟨0, .phase⟩, ⟨1, .phase⟩, ⟨2, .phase⟩, ⟨3, .phase⟩, ⟨4, .phase⟩, ⟨5, .phase⟩, ⟨6, .phase⟩, ⟨7, .phase⟩, ⟨8, .phase⟩, ⟨9, .phase⟩, ⟨10, .phase⟩, ⟨11, .phase⟩, ⟨12, .phase⟩, ⟨13, .phase⟩, ⟨14, .phase⟩, ⟨15, .phase⟩], none⟩ rfl ?_
    simp only [Act.put, zS]
    refine wpAnyE_one (i := 17) (o := ⟨none, .store 9 (.tmp 38) (.tmp 37), 0, "words.go:56", #[⟨16, .data⟩, ⟨15, .data⟩, ⟨0, .phase⟩, ⟨1, .phase⟩, ⟨2, .phase⟩, ⟨3, .phase⟩, ⟨4, .phase⟩, ⟨5, .phase⟩, ⟨6, .phase⟩, ⟨7, .phase⟩, ⟨8, .phase⟩, ⟨9, .phase⟩, ⟨10, .phase⟩, ⟨11, .phase⟩, ⟨12, .phase⟩, ⟨13, .phase⟩, ⟨14, .phase⟩, ⟨15, .phase⟩], none⟩) (by kernel_rfl) rfl (fun wy1 hE K hK => ?_)
    have c0 := cellb c0 hE
    have hown := hown.carry hE
    have hbz1 := bthen hbz hE
    clear hE
    have fz : World.frozen? wy1 ⟨g, q.length, none⟩ = false := World.ownsRow.frozenAt (by unfold OwnT at hown; rw [HLN2.out] at hown; exact hown) q.length
    go_simp
    obtain ⟨wx1, hwz⟩ : ∃ v, v = wy1.setCell ⟨g, q.length, none⟩ (.string z) := ⟨_, rfl⟩
    rw [← hwz]
    have hcz1 : Below w.heap.size w wx1 := by rw [hwz]; exact (hbz1).setCell (by exact hge) _
    replace hown : OwnT w.heap.size wx1 (.slice (some ⟨g, 0, none⟩) (q.length + 1) cp) (splitC c (L.take (k + 1))) := by rw [HSN2.out, hwz, HZ.out]; exact OwnT.set hown (p ++ [b])
    clear hwz
    refine hK _ _ (fun h => absurd rfl h) ?_
    clear hK K
    try simp only [Act.put, zS]
    refine wpAnyE_done (by kernel_rfl) (fun wy2 hE => ?_) _
    have hbz2 := bthen hcz1 hE
    have hown := hown.carry hE
    clear hE
    clear hx
    have hx := hbz2
    obtain ⟨Y1, hY1⟩ : ∃ v, v = wy2 := ⟨_, rfl⟩
    rw [← hY1] at hx hown ⊢
    clear hY1
    go_wp2_with fail
    go_roundw
    case rel => exact ⟨k + 1, by omega, by go_num, hown, hx⟩
    case measure => simp [intOf]; omega
  ·obtain rfl : k = n := by omega
   have hta : L.take k = L := List.take_of_length_le (by rw [HL.out]; omega)
   rw [hta] at hown
   clear hta
   go_wp2
   go_ret
   exact ⟨⟨_, rfl, hown⟩, hx⟩
/-- blocks outside S, and all that is no row of cells, stand. -/
structure Keep (S : Nat → Prop) (W W' : World) : Prop where
 os : W'.os = W.os
 tape : W'.tape = W.tape
 output : W'.output = W.output
 size : W.heap.size ≤ W'.heap.size
 same : ∀ (k : Nat) (o : Obj), W.heap[k]? = some o → (¬ S k ∨ o.isCells = false) → W'.heap[k]? = some o
theorem Keep.of_below {S : Nat → Prop} {W W' : World} (h : Below W.heap.size W W') : Keep S W W' := ⟨h.os, h.tape, h.output, h.size, fun k o hk _ => (h.block k (Array.getElem?_eq_some_iff.1 hk).1).trans hk⟩
theorem Keep.refl (S : Nat → Prop) (W : World) : Keep S W W := Keep.of_below (Below.refl _ _)
theorem Keep.trans {S : Nat → Prop} {W W1 W2 : World} (h : Keep S W W1) (k : Keep S W1 W2) : Keep S W W2 :=
 ⟨k.os.trans h.os, k.tape.trans h.tape, k.output.trans h.output, Nat.le_trans h.size k.size, fun j o hj hn => k.same j o (h.same j o hj hn) hn⟩
theorem Keep.mono {S S' : Nat → Prop} {W W1 : World} (h : Keep S W W1) (hs : ∀ k, S k → S' k) : Keep S' W W1 :=
 ⟨h.os, h.tape, h.output, h.size, fun j o hj hn => h.same j o hj (hn.imp (fun h e => h (hs _ e)) id)⟩
theorem Keep.setCell {S : Nat → Prop} {W W1 : World} (h : Keep S W W1) {B o : Nat} {T : TypeId} {vs : List Value} (hB : Blk W1 B T vs) (hS : S B) (x : Value) : Keep S W (W1.setCell ⟨B, o, none⟩ x) :=
 ⟨h.os, h.tape, h.output, by simpa using h.size, fun j ob hj hn => by
  have hj1 := h.same j ob hj hn
  refine (Below.heap_setCell _ _ _ _ (fun e => ?_)).trans hj1
  obtain rfl : j = B := by simpa using e
  rcases hn with hn | hn
  ·exact hn hS
  ·have := hB.symm.trans hj1
   cases this
   cases hn⟩
theorem Keep.grown {S : Nat → Prop} {W W1 W2 : World} (h : Keep S W W1) {row : Option Nat} (hg : W1.grownBy W2 row) (hr : ∀ r, row = some r → S r ∧ ∀ o, W1.heap[r]? = some o → o.isCells = true) : Keep S W W2 :=
 h.trans ⟨hg.1, hg.2, hg.3, hg.size, fun j o hj hn => by
  refine (hg.block j (Array.getElem?_eq_some_iff.1 hj).1 (fun e => ?_)).trans hj
  obtain ⟨h1, h2⟩ := hr j e.symm
  rcases hn with hn | hn
  ·exact hn h1
  ·have := h2 o hj
   rw [hn] at this; cases this⟩
theorem Keep.below {S : Nat → Prop} {W W1 : World} (h : Keep S W W1) {base : Nat} (hb : ∀ k, k < base → ¬ S k) (hs : base ≤ W.heap.size) : Below base W W1 := ⟨h.os, h.tape, h.output, h.size, fun k hk => by
 have hlt : k < W.heap.size := by omega
 have he : W.heap[k]? = some W.heap[k] := Array.getElem?_eq_getElem hlt
 rw [he]
 exact h.same k _ he (.inl (hb k hk))⟩
theorem Keep.from {S : Nat → Prop} {W W1 : World} (h : Keep S W W1) (B : Nat) : KeepsFrom B W W1 := ⟨h.size, fun k o _ hk ho => h.same k o hk (.inr ho)⟩
theorem Keep.blk {S : Nat → Prop} {W W1 : World} (h : Keep S W W1) {F : Nat} {T : TypeId} {vs : List Value} (hF : Blk W F T vs) (hne : ¬ S F) : Blk W1 F T vs := h.same F _ hF (.inl hne)
theorem Keep.own {S : Nat → Prop} {W W1 : World} (h : Keep S W W1) {base e size n : Nat} {v : Value} {xs : List Value} (ho : W.ownsRow base e size v n xs) (hne : ∀ g, v.ownBlock = some g → ¬ S g) : W1.ownsRow base e size v n xs := by
 obtain ⟨h1, h2⟩ := ho
 refine ⟨h1, ?_⟩
 rcases h2 with h2 | ⟨g, cap, cur, hv, hg, hh, r⟩
 ·exact Or.inl h2
 ·exact Or.inr ⟨g, cap, cur, hv, hg, h.same g _ hh (.inl (hne g (by rw [hv]; rfl))), r⟩
theorem Vals.set {W : World} {u : Value} {us : List Value} (h : Vals W u us) {B o : Nat} {x : Value} (hne : ∀ b off c, u = .slice (some ⟨b, off, none⟩) us.length c → b ≠ B) : Vals (W.setCell ⟨B, o, none⟩ x) u us := by
 obtain ⟨a, cp, rfl, hc, hv⟩ := h
 refine ⟨a, cp, rfl, hc, fun h0 => ?_⟩
 obtain ⟨b, off, rfl, hcs⟩ := hv h0
 refine ⟨b, off, rfl, fun j y hj => ?_⟩
 rw [World.cell?_setCell_other _ _ _ _ (fun e => hne b off cp rfl (congrArg Addr.block e).symm)]
 exact hcs j y hj
theorem Vals.tail {W : World} {b off cp n : Nat} {x : Value} {us : List Value} (h : Vals W (.slice (some ⟨b, off, none⟩) (n + 1) cp) (x :: us)) (hn : us.length = n) : Vals W (.slice (some ⟨b, off + 1, none⟩) n (cp - 1)) us := by
 obtain ⟨a, c, he, hc, hv⟩ := h
 have hc' : n + 1 ≤ cp := by
  simp only [Value.slice.injEq] at he
  obtain ⟨_, h1, h2⟩ := he
  rw [h1, h2]; exact hc
 obtain ⟨b', off', rfl, hcs⟩ := hv (by simp)
 simp only [Value.slice.injEq, Option.some.injEq, Addr.mk.injEq, and_true] at he
 obtain ⟨⟨rfl, rfl⟩, _, rfl⟩ := he
 refine ⟨some ⟨b, off + 1, none⟩, cp - 1, by rw [hn], by omega, fun _ => ⟨b, off + 1, rfl, fun j y hj => ?_⟩⟩
 rw [show off + 1 + j = off + (j + 1) by omega]
 exact hcs (j + 1) y hj
end
section
set_option linter.unusedSimpArgs false
set_option linter.unusedVariables false
open Go.RowKit
section
variable {α : Type} {F : Fence} {n : Nat} {P : Program}
/-- what an iterator does with its yield: Rw tells which blocks it may write. -/
def SeqR (F : Fence) (n : Nat) (P : Program) (g : Nat) (lb : Array Value) (encs : α → Array Value) (X : List α → α → World → Prop) (Kp : World → World → Prop) (S Sp : List α → Prop) (Rw : Nat → Prop) (w : World) : Prop :=
 ∀ (l : Nat) (J Jx : List α → World → Prop) (W : World), Below w.heap.size w W →
  (∀ pre A B row, J pre A → A.grownBy B row → (∀ r, row = some r → Rw r) → J pre B) → (∀ pre A B, Jx pre A → A.grownBy B none → Jx pre B) →
  (∀ pre x W1, J pre W1 → X pre x W1 → YieldAt F (n - 1) P l (encs x) W1 fun e W' =>
    (e = .returned (.bool true) ∧ J (pre ++ [x]) W' ∧ Kp W1 W') ∨ (e = .returned (.bool false) ∧ Jx (pre ++ [x]) W')) →
  J [] W →
  CallsIn F n P g (#[.func (.yield l) #[] #[]] ++ lb) W fun e W' => (∃ v, e = .returned v) ∧ ((∃ xs, S xs ∧ J xs W') ∨ (∃ pre, Sp pre ∧ Jx pre W'))
theorem Books.growR {D : Nat} {R : LoopState → Option Code → Loop} {st : LoopState} {pe : Option Code} {A B : World} {row : Option Nat} (h : Books D R st pe A) (hg : A.grownBy B row) (hr : ∀ r, row = some r → r < D) : Books D R st pe B :=
 ⟨(hg.block _ (Array.getElem?_eq_some_iff.1 h.1).1 (fun e => by have := hr _ e.symm; omega)).trans h.1, (hg.block _ (Array.getElem?_eq_some_iff.1 h.2).1 (fun e => by have := hr _ e.symm; omega)).trans h.2⟩
theorem wpIn_rangeR {g : Operand} {ps : Array Tmp} {assign body : Code} {Q : Exit → Act → World → Prop} {a : Act} {w : World}
 (hro : F.round = none) (h1 : 1 ≤ n) {gf : Nat} {lb : Array Value} (hg : a.eval g = .func (.func gf) #[] lb) (hFg : F.fn gf) (eg : ∀ args w, (callFunc gf args).run P w = .ok (.enter gf args) w)
 {encs : α → Array Value} {X : List α → α → World → Prop} {Kp : World → World → Prop} {S Sp : List α → Prop} {Rw : Nat → Prop} {w0 : World} (hseq : SeqR F (n - 1) P gf lb encs X Kp S Sp Rw w0) (hRb : ∀ r, Rw r → r < w.heap.size)
 (hKt : ∀ {A B C : World}, Kp A B → Kp B C → Kp A C) (hKb : ∀ (W : World) (l : Nat) (o o' : Obj), w.heap.size ≤ l → W.heap[l]? = some o → o.isCells = false → o.isWalk = false → Kp W (W.putObj l o')) (hb0 : Below w0.heap.size w0 w) (hps : ∀ x, (encs x).size = ps.size)
 (I : List α → World → Prop) (Ix : Code → List α → World → Prop) (hI : OwnFrom w.heap.size I) (hIx : ∀ c, OwnFrom w.heap.size (Ix c)) (h0 : I [] w)
 (hIw : ∀ pre A B r, I pre A → A.grownBy B (some r) → Rw r → I pre B)
 (Ax : List α → α → Act → World → Prop) (hAx : ∀ pre x a', OwnFrom w.heap.size (fun (_ : Unit) W => Ax pre x a' W))
 (hassign : ∀ (l : Nat) (pre : List α) (x : α) (W : World) (K : Act → World → Prop), I pre W → X pre x W → (∀ a' W', KeepsFrom w.heap.size W W' → Kp W W' → I pre W' → Ax pre x a' W' → K a' W') →
   assign.wpIn (F.inRound l) (n - 1 - 1) P (Exit.then K (fun _ _ _ => False)) { tmps := (ps.zip (encs x)).foldl (fun t (p, v) => t.setIfInBounds p v) a.tmps, defers := [] } W)
 (hbody : ∀ (l : Nat) (pre : List α) (x : α) (a' : Act) (W : World), I pre W → Ax pre x a' W → body.wpIn (F.inRound l) (n - 1 - 1) P (ownPostG w.heap.size Kp I Ix (pre ++ [x]) W) a' W)
 (hdone : ∀ (D : Nat) (xs : List α) (W : World), w.heap.size ≤ D → S xs → I xs W → W.heap[D]? = some (.deferred (some [])) → Q .normal { a with defers := { target := .collected D, args := #[] } :: a.defers } W)
 (hstop : ∀ (D : Nat) (c : Code) (pre : List α) (W : World), w.heap.size ≤ D → Sp pre → Ix c pre W → W.heap[D]? = some (.deferred (some [])) → c.wpIn F n P Q { a with defers := { target := .collected D, args := #[] } :: a.defers } W) :
 (Code.rangeFunc g ps assign body).wpIn F n P Q a w := by
 refine wpIn_rangeFunc fun fn hfn => ?_
 rw [hro]
 obtain ⟨R, hR⟩ : ∃ R : LoopState → Option Code → Loop, ∀ st pe, R st pe = { state := st, pending := pe, fn, tmps := a.tmps, params := ps, assign, body, defers := w.heap.size } := ⟨_, fun _ _ => rfl⟩
 obtain ⟨V, hV⟩ : ∃ V, V = (w.alloc (.deferred (some []))).alloc (.loop (R .ready none)) := ⟨_, rfl⟩
 have hen := run_enterLoop_outer (P := P) (w := w) fn a.tmps ps assign body
 rw [← hR, ← hV] at hen
 have hbk : Books w.heap.size R .ready none V := by
  rw [hV]
  refine ⟨?_, (Below.heap_alloc _ _ _ (by simp)).trans (World.alloc_heap_new w _)⟩
  have := World.alloc_heap_new (w.alloc (.deferred (some []))) (.loop (R .ready none))
  rwa [World.size_alloc] at this
 have hbV : Below w0.heap.size w0 V := by
  rw [hV]; exact hb0.trans ((((Below.refl _ w).alloc (Nat.le_refl _) _).alloc (by simp) _).mono hb0.size)
 have hVs : V.heap.size = w.heap.size + 2 := by rw [hV]; simp
 have hIV : I [] V := by rw [hV]; exact hI.alloc _ (hI.alloc _ h0)
 refine ⟨_, _, V, { target := .fn (.func gf) lb, args := #[.func (.yield (w.heap.size + 1)) #[] #[]] }, V, gf, _, V, hen, by simp only [resolve, hg]; simp [go_sem], fun f' hf' => by simp [Target.leads] at hf'; subst hf'; exact hFg, by simp [invoke, go_sem, eg]; rfl, fun _ => h1, ?_⟩
 have turnI : ∀ {W : World} {pre : List α} {st st' : LoopState} {pe pe' : Option Code}, I pre W → Books w.heap.size R st pe W → I pre (W.putObj (w.heap.size + 1) (.loop (R st' pe'))) := fun hi hb => hI.putObj _ hi (by omega) hb.1 rfl
 have turnX : ∀ {W : World} {pre : List α} {c : Code} {st st' : LoopState} {pe pe' : Option Code}, Ix c pre W → Books w.heap.size R st pe W → Ix c pre (W.putObj (w.heap.size + 1) (.loop (R st' pe'))) := fun hi hb => (hIx _).putObj _ hi (by omega) hb.1 rfl
 have turnK : ∀ {W : World} {st st' : LoopState} {pe pe' : Option Code}, Books w.heap.size R st pe W → Kp W (W.putObj (w.heap.size + 1) (.loop (R st' pe'))) := fun hb => hKb _ _ _ _ (by omega) hb.1 rfl rfl
 refine (hseq (w.heap.size + 1) (fun pre W => I pre W ∧ Books w.heap.size R .ready none W) (fun pre W => ∃ c, Ix c pre W ∧ Books w.heap.size R .done (some c) W) V hbV
  (fun pre A B row h hg hr => ⟨by
    cases row with
    | none => exact hI pre A B none h.1 hg (fun r e => by cases e)
    | some r => exact hIw pre A B r h.1 hg (hr r rfl), h.2.growR hg (fun r e => hRb r (hr r e))⟩)
  (fun pre A B ⟨c, h, hb⟩ hg => ⟨c, hIx c pre A B none h hg (fun r e => by cases e), hb.grow hg (fun r e => by cases e)⟩) ?_ ⟨hIV, hbk⟩).mono ?_
 ·rintro pre x W ⟨hi, hb⟩ hx
  have hy := run_yield (P := P) (args := encs x) hb.1 (by rw [hR]; exact hps x)
  simp only [hR] at hy
  refine ⟨fn, _, assign, body, hy, roundIn_of_wpIn hfn (hassign _ pre x W _ hi hx fun a' W' hkf hkp hi' hax => ?_)⟩
  have hb' := hb.from hkf
  have hbusy : Books w.heap.size R .busy none (W'.putObj (w.heap.size + 1) (.loop (R .busy none))) := hb'.turn
  have hbg := run_beginRound (P := P) hb'.1 (by rw [hR])
  have e1 : ({ R .ready none with state := .busy } : Loop) = R .busy none := by rw [hR, hR]
  rw [e1] at hbg
  refine ⟨_, hbg, wpIn_mono (hbody _ pre x a' _ (turnI hi' hb') ((hAx pre x a').putObj (s := ()) _ hax (by omega) hb'.1 rfl)) ?_⟩
  have fin : ∀ (jump : Option Code) (W3 : World), Books w.heap.size R .busy none W3 → (Instr.endRound (w.heap.size + 1) jump).run P W3 = .ok (.bool jump.isNone) (W3.putObj (w.heap.size + 1) (.loop (R (if jump.isNone then .ready else .done) jump))) := fun jump W3 h3 => by
   have := run_endRound (P := P) jump h3.1
   rw [this]; congr 3
   rw [hR, hR]
  have stop : ∀ (c : Code) (W3 : World), KeepsFrom w.heap.size (W'.putObj (w.heap.size + 1) (.loop (R .busy none))) W3 → Ix c (pre ++ [x]) W3 → ∃ v w', (Instr.endRound (w.heap.size + 1) (some c)).run P W3 = .ok v w' ∧
   ((Ending.returned v = .returned (.bool true) ∧ (I (pre ++ [x]) w' ∧ Books w.heap.size R .ready none w') ∧ Kp W w') ∨ (Ending.returned v = .returned (.bool false) ∧ ∃ c, Ix c (pre ++ [x]) w' ∧ Books w.heap.size R .done (some c) w')) := fun c W3 hk3 hi3 =>
   ⟨_, _, fin (some c) W3 (hbusy.from hk3), .inr ⟨rfl, c, turnX hi3 (hbusy.from hk3), (hbusy.from hk3).turn⟩⟩
  rintro e a3 W3 hp
  cases e with
  | normal =>
    obtain ⟨hk3, hkp3, hi3⟩ := hp
    exact ⟨_, _, fin none W3 (hbusy.from hk3), .inl ⟨rfl, ⟨turnI hi3 (hbusy.from hk3), (hbusy.from hk3).turn⟩, hKt hkp (hKt (turnK hb') (hKt hkp3 (turnK (hbusy.from hk3))))⟩⟩
  | ret => exact stop _ W3 hp.1 hp.2
  | exit id => exact stop _ W3 hp.1 hp.2
  | goto t => exact stop _ W3 hp.1 hp.2
  | panic ch => exact hp.elim
  | outgrown => exact hp.elim
 ·have fin : ∀ (st : LoopState) (pe : Option Code) (W3 : World), st ≠ .busy → Books w.heap.size R st pe W3 → (Instr.endLoop (w.heap.size + 1)).run P W3 = .ok pe (W3.putObj (w.heap.size + 1) (.loop (R .exhausted pe))) := fun st pe W3 hst h3 => by
   have := run_endLoop (P := P) h3.1 (by rw [hR]; exact hst)
   rw [this]
   simp only [hR]
  rintro e W2 ⟨⟨v, rfl⟩, ⟨xs, hS, hi, hb⟩ | ⟨pre, hSp, c, hi, hb⟩⟩
  ·exact ⟨none, _, fin _ _ _ (by simp) hb, hdone _ xs _ (Nat.le_refl _) hS (turnI hi hb) (hb.turn (st' := .exhausted) (pe' := none)).2⟩
  ·exact ⟨some c, _, fin _ _ _ (by simp) hb, hstop _ c pre _ (Nat.le_refl _) hSp (turnX hi hb) (hb.turn (st' := .exhausted) (pe' := some c)).2⟩
end
theorem wp_rangeR {δ : Type} {P : Program} {g : Operand} {p s : Nat} {assign body : Code} {Q : Exit → Act → World → Prop} {a : Act} {w : World}
 {gf : Nat} {lb : Array Value} (hg : a.eval g = .func (.func gf) #[] lb) (eg : ∀ args w, (callFunc gf args).run P w = .ok (.enter gf args) w)
 {X : List (Value × δ) → Value × δ → World → Prop} {Kp : World → World → Prop} {S Sp : List (Value × δ) → Prop} {Rw : Nat → Prop} {w0 : World} (hseq : SeqR Fence.wide 4 P gf lb (fun x => #[x.1]) X Kp S Sp Rw w0) (hRb : ∀ r, Rw r → r < w.heap.size)
 (hKt : ∀ {A B C : World}, Kp A B → Kp B C → Kp A C) (hKb : ∀ (W : World) (l : Nat) (o o' : Obj), w.heap.size ≤ l → W.heap[l]? = some o → o.isCells = false → o.isWalk = false → Kp W (W.putObj l o')) (hKr : ∀ W, Kp W W) (hb0 : Below w0.heap.size w0 w)
 (I : List (Value × δ) → World → Prop) (Ix : Code → List (Value × δ) → World → Prop) (hI : OwnFrom w.heap.size I) (hIx : ∀ c, OwnFrom w.heap.size (Ix c)) (h0 : I [] w)
 (hIw : ∀ pre A B r, I pre A → A.grownBy B (some r) → Rw r → I pre B)
 (hX : ∀ pre, OwnFrom w.heap.size (X pre))
 (hassign : ∀ (l : Nat) (v : Value) (W : World) (K : Act → World → Prop), K { tmps := (a.tmps.setIfInBounds p v).setIfInBounds s v, defers := [] } W →
   assign.wpIn (Fence.wide.inRound l) 3 P (Exit.then K (fun _ _ _ => False)) { tmps := a.tmps.setIfInBounds p v, defers := [] } W)
 (hbody : ∀ (l : Nat) (pre : List (Value × δ)) (x : Value × δ) (W : World), I pre W → X pre x W → body.wpIn (Fence.wide.inRound l) 3 P (ownPostG w.heap.size Kp I Ix (pre ++ [x]) W) { tmps := (a.tmps.setIfInBounds p x.1).setIfInBounds s x.1, defers := [] } W)
 (hdone : ∀ (D : Nat) (xs : List (Value × δ)) (W : World), w.heap.size ≤ D → S xs → I xs W → W.heap[D]? = some (.deferred (some [])) → Q .normal { a with defers := { target := .collected D, args := #[] } :: a.defers } W)
 (hstop : ∀ (D : Nat) (c : Code) (pre : List (Value × δ)) (W : World), w.heap.size ≤ D → Sp pre → Ix c pre W → W.heap[D]? = some (.deferred (some [])) → c.wp P Q { a with defers := { target := .collected D, args := #[] } :: a.defers } W) :
 (Code.rangeFunc g #[p] assign body).wp P Q a w :=
 (wpIn_wide (n := 5)).1 (wpIn_rangeR rfl (by omega) hg trivial eg hseq hRb hKt hKb hb0 (fun _ => rfl) I Ix hI hIx h0 hIw
   (fun pre x a' W => a' = { tmps := (a.tmps.setIfInBounds p x.1).setIfInBounds s x.1, defers := [] } ∧ X pre x W) (fun pre x a' _ A B row hs hg hr => ⟨hs.1, hX pre x A B row hs.2 hg hr⟩)
   (fun l pre x W K hi hx hK => by
     have e : ((#[p].zip #[x.1]).foldl (fun t (p, v) => t.setIfInBounds p v) a.tmps) = a.tmps.setIfInBounds p x.1 := by simp
     rw [e]; exact hassign l x.1 W K (hK _ _ (KeepsFrom.refl _ _) (hKr W) hi ⟨rfl, hx⟩))
   (fun l pre x a' W hi ⟨e, hx⟩ => by subst e; exact hbody l pre x W hi hx) hdone (fun D c pre W h1 h2 h3 h4 => wpIn_wide.2 (hstop D c pre W h1 h2 h3 h4)))
section
attribute [local go_sem] Oper.semAt_some
def strAt (W : World) (B : Nat) : Nat := match W.cell? ⟨B, 0, none⟩ with
 | some (.string s) => s.size
 | _ => 0
/-- the text that is left lies in its block. -/
def Left (W : World) (B : Nat) (l : List UInt8) : Prop := Blk W B 9 [strV l]
theorem indexByte_in (s : ByteArray) (c : Int) (w : World) : Calls Tryz.prog 112 #[.string s, .int .u8 c] w fun e w' => e = .returned (.int .i64 (Lib.indexByte s.data.toList c.toNat.toUInt8)) ∧ w' = w := Tryz.strings_IndexByte s c w
theorem set_grown_drew {W : World} {B : Nat} {T : TypeId} {vs : List Value} (h : Blk W B T vs) (x : Value) : W.grownBy (W.setCell ⟨B, 0, none⟩ x).drew (some B) :=
 ⟨rfl, rfl, rfl, by simp [World.drew], fun k _ hk => Below.heap_setCell _ _ _ _ (fun e => hk (by simp [e]))⟩
theorem set_grown {W : World} {B : Nat} {T : TypeId} {vs : List Value} (h : Blk W B T vs) (x : Value) : W.grownBy (W.setCell ⟨B, 0, none⟩ x) (some B) :=
 ⟨rfl, rfl, rfl, by simp, fun k _ hk => Below.heap_setCell _ _ _ _ (fun e => hk (by simp [e]))⟩
set_option maxRecDepth 100000 in
set_option maxHeartbeats 4000000 in
theorem lines1_in (n : Nat) (hn : 1 ≤ n) (l Bs : Nat) (L : List UInt8) (hl : L.length ≤ 1000000) (J Jx : List (Value × List UInt8) → World → Prop)
 (hJ : ∀ pre A B, J pre A → A.grownBy B (some Bs) → J pre B)
 (hY : ∀ pre x W, J pre W → (x.1 = strV x.2 ∧ ∃ post, pre.map Prod.snd ++ x.2 :: post = linesL L) → YieldAt Fence.wide (n - 1) Tryz.prog l #[x.1] W fun e W' =>
   (e = .returned (.bool true) ∧ J (pre ++ [x]) W' ∧ W'.heap[Bs]? = W.heap[Bs]?) ∨ (e = .returned (.bool false) ∧ Jx (pre ++ [x]) W'))
 (W : World) (hBs : Left W Bs L) (h00 : J [] W) :
 CallsIn Fence.wide n Tryz.prog 111 #[.func (.yield l) #[] #[], .pointer (some ⟨Bs, 0, none⟩)] W fun e W' => (∃ v, e = .returned v) ∧
  ((∃ xs, xs.map Prod.snd = linesL L ∧ J xs W') ∨ (∃ pre, (∃ post, pre.map Prod.snd ++ post = linesL L) ∧ Jx pre W')) := by
 refine callsIn_of_wp Tryz.func111 rfl trivial ?_ rfl
 simp only [Tryz.ntmps111, List.size_toArray, List.length_cons, List.length_nil, Nat.reduceAdd, Nat.reduceSub, Array.replicate_succ, Array.replicate_zero, List.push_toArray, List.append_toArray, List.nil_append, List.cons_append]
 have hwf : ∀ f, Fence.wide.fn f := fun _ => trivial
 gi_wp2
 gi_loopw [3] (fun r wr => ∃ (pre : List (Value × List UInt8)) (rest : List UInt8), pre.map Prod.snd ++ linesL rest = linesL L ∧ rest.length ≤ 1000000 ∧ J pre wr ∧ Left wr Bs rest)
  (fun _ wr => strAt wr Bs)
 case atStart => exact ⟨[], L, rfl, hl, h00, hBs⟩
 case round =>
  clear hBs h00
  obtain ⟨pre, rest, hpre, hrl, hj, hb⟩ := hrel
  have c0 : wr.cell? ⟨Bs, 0, none⟩ = some (.string ⟨rest.toArray⟩) := hb.cell (j := 0) rfl
  have HP := Lib.hid hpre
  clear hpre
  have hsz : (⟨rest.toArray⟩ : ByteArray).size = rest.length := mk_size rest
  by_cases hlt : rest = []
  ·subst hlt
   have HP2 := Lib.hid (show pre.map Prod.snd = linesL L by rw [← HP.out, linesL_nil, List.append_nil])
   clear hY
   gi_wp2
   go_end0
   exact ⟨⟨_, rfl⟩, .inl ⟨pre, HP2.out, hj⟩⟩
  ·have hlt' : 0 < rest.length := List.length_pos_iff.2 hlt
   have hlt2 : (0 : Int) < (rest.length : Int) := by omega
   have HIB := Lib.hid ((callsIn_wide (n := n - 1)).2 (indexByte_in ⟨rest.toArray⟩ 10 wr))
   have hfz := hb.frozen 0
   by_cases hi : Lib.indexByte rest 10 = -1
   ·have HLN := Lib.hid (linesL_none (index_none hi) hlt)
    have hi2 : Lib.indexByte (⟨rest.toArray⟩ : ByteArray).data.toList (10 : Int).toNat.toUInt8 = -1 := hi
    rw [hi2] at HIB
    clear hi hi2
    have HLE := Lib.hid (show (linesL ([] : List UInt8)) = [] from linesL_nil)
    have hb2 : Left (wr.setCell ⟨Bs, 0, none⟩ (.string ⟨#[]⟩)) Bs [] := Blk.set hb 0 (.string ⟨#[]⟩)
    have hj2 : J pre (wr.setCell ⟨Bs, 0, none⟩ (.string ⟨#[]⟩)) := hJ _ _ _ hj (set_grown hb _)
    obtain ⟨W2, hW2⟩ : ∃ v, v = wr.setCell ⟨Bs, 0, none⟩ (.string ⟨#[]⟩) := ⟨_, rfl⟩
    rw [← hW2] at hb2 hj2
    obtain ⟨fn, tmps, assign, body, hy, hR⟩ := hY pre (strV rest, rest) W2 hj2 ⟨rfl, [], by rw [← HP.out, HLN.out]⟩
    have HR := Lib.hid hR
    have HY := Lib.hid hy
    have HW2 := Lib.hid hW2
    clear hY hR hy hj hW2
    have hy : Sem.run Tryz.prog (Instr.yield l #[.string ⟨rest.toArray⟩]) W2 = .ok (.round l fn tmps assign body) W2 := HY.out
    rw [HW2.out] at hy
    gi_wp2_with (first | (gi_at_call 112; refine HIB.out.mono ?_; rintro e w1 ⟨rfl, rfl⟩))
    rw [← HW2.out]
    refine HR.out.mono ?_
    rintro e W3 (⟨rfl, hj3, hk3⟩ | ⟨rfl, hjx⟩)
    ·have hb3 : Left W3 Bs [] := hk3.trans hb2
     gi_wp2
     go_roundw
     case rel => exact ⟨_, [], by rw [List.map_append, HLE.out, List.append_nil, ← HP.out, HLN.out]; rfl, by simp, hj3, hb3⟩
     case measure =>
      have e1 := hb3.cell (j := 0) (v := .string ⟨#[]⟩) rfl
      simp only [strAt, e1, c0, hsz]
      exact hlt'
    ·gi_wp2
     refine bodyPost_ret (results_none rfl _ _ _) rfl ?_
     exact ⟨⟨_, rfl⟩, .inr ⟨_, ⟨[], by rw [List.map_append, List.append_nil, ← HP.out, HLN.out]; rfl⟩, hjx⟩⟩
   ·have hge := Lib.indexByte_ge rest 10
    obtain ⟨o, ho⟩ : ∃ o : Nat, Lib.indexByte rest 10 = o := ⟨(Lib.indexByte rest 10).toNat, by omega⟩
    obtain ⟨hnm, hsp⟩ := index_hit ho
    have hol : o < rest.length := by
     have h1 := (Lib.indexByte_some ho).1
     exact (List.getElem?_eq_some_iff.1 h1).1
    have hi2 : Lib.indexByte (⟨rest.toArray⟩ : ByteArray).data.toList (10 : Int).toNat.toUInt8 = (o : Int) := ho
    rw [hi2] at HIB
    have hln := linesL_hit (r := rest.drop (o + 1)) hnm
    rw [← hsp] at hln
    have HLN := Lib.hid hln
    have HX1 := Lib.hid (show (⟨rest.toArray⟩ : ByteArray).extract 0 (o + 1) = ⟨(rest.take o ++ [10]).toArray⟩ from baEq (by
     rw [Lib.extract_from_zero]
     show rest.take (o + 1) = rest.take o ++ [10]
     rw [List.take_add_one, (Lib.indexByte_some ho).1]; rfl))
    have HX2 := Lib.hid (show (⟨rest.toArray⟩ : ByteArray).extract (o + 1) rest.length = ⟨(rest.drop (o + 1)).toArray⟩ from baEq (by
     have := Lib.extract_to_end (⟨rest.toArray⟩ : ByteArray) (o + 1)
     rw [hsz] at this
     exact this))
    clear hi2 hln hnm hsp ho hge hi
    have hb2 : Left (wr.setCell ⟨Bs, 0, none⟩ (strV (rest.drop (o + 1)))).drew Bs (rest.drop (o + 1)) := Blk.set hb 0 _
    have hj2 : J pre (wr.setCell ⟨Bs, 0, none⟩ (strV (rest.drop (o + 1)))).drew := hJ _ _ _ hj (set_grown_drew hb _)
    obtain ⟨W2, hW2⟩ : ∃ v, v = (wr.setCell ⟨Bs, 0, none⟩ (strV (rest.drop (o + 1)))).drew := ⟨_, rfl⟩
    rw [← hW2] at hb2 hj2
    obtain ⟨fn, tmps, assign, body, hy, hR⟩ := hY pre (strV (rest.take o ++ [10]), rest.take o ++ [10]) W2 hj2 ⟨rfl, linesL (rest.drop (o + 1)), by rw [← HP.out, HLN.out]⟩
    have HR := Lib.hid hR
    have HY := Lib.hid hy
    have HW2 := Lib.hid hW2
    clear hY hR hy hj hW2
    have v1 : IntKind.i64.wrap ((o : Int) + 1) = (o : Int) + 1 := IntWalk.i64_in _ (by omega)
    have d1 : (o : Int) + 1 ≤ (rest.length : Int) := by omega
    have d2 : (0 : Int) ≤ (o : Int) + 1 := by omega
    gi_wp2_with (first | (gi_at_call 112; refine HIB.out.mono ?_; rintro e w1 ⟨rfl, rfl⟩))
    gi_region
    rw [HX1.out, HX2.out]
    rw [← HW2.out]
    have hy : Sem.run Tryz.prog (Instr.yield l #[.string ⟨(rest.take o ++ [10]).toArray⟩]) W2 = .ok (.round l fn tmps assign body) W2 := HY.out
    gi_wp2
    refine HR.out.mono ?_
    rintro e W3 (⟨rfl, hj3, hk3⟩ | ⟨rfl, hjx⟩)
    ·have hb3 : Left W3 Bs (rest.drop (o + 1)) := hk3.trans hb2
     gi_wp2
     go_roundw
     case rel => exact ⟨_, rest.drop (o + 1), by rw [List.map_append, List.append_assoc, ← HP.out, HLN.out]; rfl, by rw [List.length_drop]; omega, hj3, hb3⟩
     case measure =>
      have e1 := hb3.cell (j := 0) (v := strV (rest.drop (o + 1))) rfl
      simp only [strAt, e1, c0, hsz, mk_size, List.length_drop]
      omega
    ·gi_wp2
     refine bodyPost_ret (results_none rfl _ _ _) rfl ?_
     exact ⟨⟨_, rfl⟩, .inr ⟨_, ⟨linesL (rest.drop (o + 1)), by rw [List.map_append, List.append_assoc, ← HP.out, HLN.out]; rfl⟩, hjx⟩⟩
end
theorem ownsRow_sl {w : World} {base e size n : Nat} {v : Value} {xs : List Value} (h : w.ownsRow base e size v n xs) : ∃ a cap, v = .slice a n cap := by
 rcases h.2 with ⟨rfl, rfl⟩ | ⟨g, cap, cur, rfl, _⟩
 ·exact ⟨_, _, rfl⟩
 ·exact ⟨_, _, rfl⟩
theorem ownsRow_setO {w : World} {base e size n B j : Nat} {v x : Value} {xs : List Value} (h : w.ownsRow base e size v n xs) (hB : B < base) : (w.setCell ⟨B, j, none⟩ x).ownsRow base e size v n xs := by
 obtain ⟨h1, h2⟩ := h
 refine ⟨h1, ?_⟩
 rcases h2 with h2 | ⟨g, cap, cur, hv, hg, hh, r⟩
 ·exact Or.inl h2
 ·exact Or.inr ⟨g, cap, cur, hv, hg, (Below.heap_setCell _ _ _ _ (by simp; omega)).trans hh, r⟩
theorem below_gr {H : Nat} {A B : World} {row : Option Nat} (hg : A.grownBy B row) (hr : ∀ r, row = some r → H ≤ r) (hs : H ≤ A.heap.size) : Below H A B :=
 ⟨hg.1, hg.2, hg.3, hg.size, fun k hk => hg.block k (by omega) (fun e => by have := hr k e.symm; omega)⟩
def MaxL (W : World) : Prop := ∃ m, W.cell? ⟨1, 0, none⟩ = some (.int .i64 m)
theorem MaxL.carry {W W' : World} (h : MaxL W) (hb : Below W.heap.size W W') : MaxL W' := by
 obtain ⟨m, hm⟩ := h
 exact ⟨m, cellb hm hb⟩
theorem cut_any (l : List UInt8) (W : World) (hl : l.length ≤ 1000000) :
 Calls Tryz.prog 49 #[strV l, .string ⟨#[10]⟩] W fun e w' => e = .returned (.tuple #[strV (bodyL l), .bool (endsL l)]) ∧ w' = W := by
 have h := Tryz.strings_CutSuffix ⟨l.toArray⟩ ⟨#[10]⟩ W (by rw [mk_size]; omega)
 rw [show Lib.trimSuffix (⟨l.toArray⟩ : ByteArray).data.toList (⟨#[10]⟩ : ByteArray).data.toList = bodyL l from trim_one l, show Lib.hasSuffix (⟨l.toArray⟩ : ByteArray).data.toList (⟨#[10]⟩ : ByteArray).data.toList = endsL l from suffix_one l] at h
 exact h
theorem pieces_one (l : List UInt8) : (Lib.splitB ⟨#[32]⟩ 0 (Lib.countB ⟨l.toArray⟩ ⟨#[32]⟩) ⟨l.toArray⟩).map Value.string = (splitC 32 l).map strV := by
 have h := Lib.splitB_data ⟨#[32]⟩ 0 (Lib.countB ⟨l.toArray⟩ ⟨#[32]⟩) ⟨l.toArray⟩
 have h2 : Lib.splitK [32] 0 (Lib.countB ⟨l.toArray⟩ ⟨#[32]⟩) l = splitC 32 l := split_one 32 l
 rw [show Lib.splitK (⟨#[32]⟩ : ByteArray).data.toList 0 (Lib.countB ⟨l.toArray⟩ ⟨#[32]⟩) (⟨l.toArray⟩ : ByteArray).data.toList = splitC 32 l from h2] at h
 rw [← h, List.map_map]
 apply List.map_congr_left
 intro b _
 show Value.string b = strV b.data.toList
 exact congrArg Value.string (baEq rfl)
theorem words_any (l : List UInt8) (W : World) (hl : l.length ≤ 1000000) (hM : MaxL W) :
 Calls Tryz.prog 114 #[strV l, .string ⟨#[32]⟩] W fun e W' => e = .returned (.slice (some ⟨W.heap.size, 0, none⟩) (splitC 32 l).length (splitC 32 l).length) ∧ Blk W' W.heap.size 9 ((splitC 32 l).map strV) ∧ Below W.heap.size W W' := by
 obtain ⟨m, hm⟩ := hM
 have h := Tryz.strings_Split ⟨l.toArray⟩ ⟨#[32]⟩ m W (by rw [mk_size]; omega) hm (by decide)
 have hp := pieces_one l
 have hc : Lib.countB ⟨l.toArray⟩ ⟨#[32]⟩ + 1 = (splitC 32 l).length := by
  rw [splitC_length]
  show Lib.count l [32] + 1 = _
  rw [Lib.count_one]
 rw [hp, hc] at h
 refine h.mono ?_
 rintro e W' ⟨rfl, rfl⟩
 exact ⟨rfl, Blk.new _ _ _, below_new _ _⟩
theorem Vals.of_blk {W : World} {B : Nat} {T : TypeId} {us : List Value} (h : Blk W B T us) : Vals W (.slice (some ⟨B, 0, none⟩) us.length us.length) us :=
 ⟨some ⟨B, 0, none⟩, us.length, rfl, Nat.le_refl _, fun _ => ⟨B, 0, rfl, fun j u hj => by rw [Nat.zero_add]; exact h.cell hj⟩⟩
theorem own_own {W W' : World} {row : Option Nat} {base e size n : Nat} {v : Value} {xs : List Value} (ho : W.ownsRow base e size v n xs) (hg : W.grownBy W' row) (hr : ∀ r g, row = some r → v.ownBlock = some g → r ≠ g) : W'.ownsRow base e size v n xs := by
 obtain ⟨h1, h2⟩ := ho
 refine ⟨h1, ?_⟩
 rcases h2 with h2 | ⟨g, cap, cur, hv, hg', hh, r⟩
 ·exact Or.inl h2
 ·exact Or.inr ⟨g, cap, cur, hv, hg', (hg.block g (Array.getElem?_eq_some_iff.1 hh).1 (fun e => hr g g e.symm (by rw [hv]; rfl) rfl)).trans hh, r⟩
theorem ownsRow_cellsT {W : World} {base : Nat} {e : TypeId} {size : Nat} {v : Value} {k : Nat} {xs : List Value} (h : W.ownsRow base e size v k xs) {j : Nat} {o : Obj} (hj : v.ownBlock = some j) (ho : W.heap[j]? = some o) : o.isCells = true := by
 rcases h.2 with ⟨rfl, _⟩ | ⟨g, cap, cur, rfl, _, hg, _⟩
 ·simp [Value.ownBlock] at hj
 ·obtain rfl : g = j := by simpa [Value.ownBlock] using hj
  have := hg.symm.trans ho
  cases this
  rfl
theorem lines_any (s : ByteArray) (w : World) :
 Calls Tryz.prog 48 #[.string s] w fun e w' => e = .returned (.func (.func 111) #[] #[.pointer (some ⟨w.heap.size, 0, none⟩)]) ∧ w.alloc (.cells #[.string s] 9) = w' := by
 go_enter Tryz.func48, Tryz.ntmps48
 go_wp2
 go_ret
 exact ⟨rfl, rfl⟩
theorem lines_seq (n : Nat) (hn : 1 ≤ n) (Bs : Nat) (L : List UInt8) (hl : L.length ≤ 1000000) (w : World) (hBs : Left w Bs L) :
 SeqR Fence.wide n Tryz.prog 111 #[.pointer (some ⟨Bs, 0, none⟩)] (fun x : Value × List UInt8 => #[x.1]) (fun pre x _ => x.1 = strV x.2 ∧ ∃ post, pre.map Prod.snd ++ x.2 :: post = linesL L) (fun A B => B.heap[Bs]? = A.heap[Bs]?)
  (fun xs => xs.map Prod.snd = linesL L) (fun pre => ∃ post, pre.map Prod.snd ++ post = linesL L) (fun r => r = Bs) w :=
 fun l J Jx W hW hJ _ hY h00 => (lines1_in n hn l Bs L hl J Jx (fun pre A B h hg => hJ pre A B (some Bs) h hg (fun r e => by cases e; rfl)) hY W (hBs.carry hW) h00)
theorem Blk.own_kept {w w1 : World} {B base e size n : Nat} {T : TypeId} {vs xs : List Value} {v : Value} (h : Blk w B T vs) (ho : w.ownsRow base e size v n xs) (hT : T ≠ e) (hg : w.grownBy w1 v.ownBlock) : Blk w1 B T vs := by
 refine h.kept hg (fun hrow => ?_)
 obtain ⟨h1, h2⟩ := ho
 rcases h2 with ⟨rfl, h2⟩ | ⟨g, cap, cur, rfl, hg', hh, hr⟩
 ·simp [Value.ownBlock] at hrow
 ·simp [Value.ownBlock] at hrow
  subst hrow
  unfold Blk at h
  rw [hh] at h
  injection h with h
  injection h with _ h3 _
  exact hT h3.symm
/-- the words behind the first one. -/
theorem tail_run (b n : Nat) : ∃ o, (∀ W, Sem.run Tryz.prog (Instr.slice 44 (.slice (some ⟨b, 0, none⟩) (n + 1) (n + 1)) (some (.int .i64 1)) none none) W = .ok (.slice (some ⟨b, o, none⟩) n n) W) ∧ (n ≠ 0 → o = 1) := by
 by_cases h0 : n = 0
 ·subst h0
  exact ⟨0, fun W => by go_simp, fun h => absurd rfl h⟩
 ·refine ⟨1, fun W => ?_, fun _ => rfl⟩
  have h1 : ¬ n + 1 = 1 := by omega
  have h2 : ¬ (n : Int) + 1 < 1 := by omega
  go_simp
theorem Vals.low {W W' : World} {u : Value} {us : List Value} {H : Nat} (h : Vals W u us) (hl : ∀ b off c, u = .slice (some ⟨b, off, none⟩) us.length c → b < H) (hb : Below H W W') : Vals W' u us := by
 obtain ⟨a, cp, rfl, hc, hv⟩ := h
 refine ⟨a, cp, rfl, hc, fun h0 => ?_⟩
 obtain ⟨b, off, rfl, hcs⟩ := hv h0
 refine ⟨b, off, rfl, fun j y hj => ?_⟩
 rw [hb.cell (p := ⟨b, off + j, none⟩) (hl b off cp rfl)]
 exact hcs j y hj
end
end Go.Proofs.YtpmngcffkhbofaaGreatDoor

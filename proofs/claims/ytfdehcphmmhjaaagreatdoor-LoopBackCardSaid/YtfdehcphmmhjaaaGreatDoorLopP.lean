/- Plain facts of texts of loops: a text cut at a byte, lines, signed integers, the lines of a loop. No program in sight. -/
import Derived.Lib.SplitLaws
import Derived.Lib.IndexBytes
import Derived.Lib.AtoiTie
import Derived.Lib.ItoaMem
import Derived.Test.YtfdehcphmmhjaaaGreatDoorPrintC
namespace Go.Proofs.YtfdehcphmmhjaaaGreatDoor
section
set_option linter.unusedSimpArgs false
set_option linter.unusedVariables false
open Go.RowKit
/-- the parts of a text between the places of a byte. -/
def splitC (c : UInt8) : List UInt8 → List (List UInt8)
  | [] => [[]]
  | x :: t => if x = c then [] :: splitC c t else match splitC c t with
    | [] => [[x]]
    | p :: ps => (x :: p) :: ps
theorem splitC_ne (c : UInt8) : ∀ l, splitC c l ≠ []
  | [] => by simp [splitC]
  | x :: t => by
    unfold splitC
    split
    · simp
    · split <;> simp
/-- the last part grows. -/
def growLast (x : UInt8) : List (List UInt8) → List (List UInt8)
  | [] => [[x]]
  | [p] => [p ++ [x]]
  | p :: q :: r => p :: growLast x (q :: r)
theorem splitC_snoc (c x : UInt8) : ∀ l, splitC c (l ++ [x]) = if x = c then splitC c l ++ [[]] else growLast x (splitC c l)
  | [] => by
    by_cases h : x = c <;> simp [splitC, h, growLast]
  | y :: t => by
    have ih := splitC_snoc c x t
    have hne := splitC_ne c t
    rw [List.cons_append]
    by_cases hy : y = c
    · rw [splitC, if_pos hy, splitC, if_pos hy, ih]
      by_cases h : x = c
      · simp [h]
      · rw [if_neg h, if_neg h]
        cases hs : splitC c t with
        | nil => exact absurd hs hne
        | cons p ps => rfl
    · rw [splitC, if_neg hy, splitC, if_neg hy, ih]
      by_cases h : x = c
      · rw [if_pos h, if_pos h]
        cases hs : splitC c t with
        | nil => exact absurd hs hne
        | cons p ps => rfl
      · rw [if_neg h, if_neg h]
        cases hs : splitC c t with
        | nil => exact absurd hs hne
        | cons p ps =>
          cases ps with
          | nil => rfl
          | cons q r => rfl
theorem growLast_concat (x : UInt8) (p : List UInt8) : ∀ l, growLast x (l ++ [p]) = l ++ [p ++ [x]]
  | [] => rfl
  | [a] => rfl
  | a :: b :: r => by
    have := growLast_concat x p (b :: r)
    simp only [List.cons_append] at this ⊢
    rw [growLast, this]
theorem splitC_length (c : UInt8) : ∀ l, (splitC c l).length = l.count c + 1
  | [] => rfl
  | x :: t => by
    have ih := splitC_length c t
    have hne := splitC_ne c t
    unfold splitC
    by_cases h : x = c
    · rw [if_pos h, List.length_cons, ih, h, List.count_cons_self]
    · rw [if_neg h, List.count_cons_of_ne (by simpa using h)]
      cases hs : splitC c t with
      | nil => exact absurd hs hne
      | cons p ps => rw [hs] at ih; simpa using ih
/-- a text without the byte. -/
theorem splitC_none (c : UInt8) : ∀ l : List UInt8, c ∉ l → splitC c l = [l]
  | [], _ => rfl
  | x :: t, h => by
    have h1 : x ≠ c := fun e => h (by rw [e]; exact List.mem_cons_self ..)
    rw [splitC, if_neg h1, splitC_none c t (fun e => h (List.mem_cons_of_mem _ e))]
/-- the first part, the byte, and the rest. -/
theorem splitC_hit (c : UInt8) (r : List UInt8) : ∀ l : List UInt8, c ∉ l → splitC c (l ++ c :: r) = l :: splitC c r
  | [], _ => by rw [List.nil_append, splitC, if_pos rfl]
  | x :: t, h => by
    have h1 : x ≠ c := fun e => h (by rw [e]; exact List.mem_cons_self ..)
    rw [List.cons_append, splitC, if_neg h1, splitC_hit c r t (fun e => h (List.mem_cons_of_mem _ e))]
theorem index_none {l : List UInt8} {c : UInt8} (h : Lib.indexByte l c = -1) : c ∉ l := fun e => by
  obtain ⟨k, hk⟩ := List.mem_iff_getElem?.1 e
  exact Lib.indexByte_none h k hk
theorem index_hit {l : List UInt8} {c : UInt8} {o : Nat} (h : Lib.indexByte l c = o) : c ∉ l.take o ∧ l = l.take o ++ c :: l.drop (o + 1) := by
  obtain ⟨h1, h2⟩ := Lib.indexByte_some h
  refine ⟨fun e => ?_, ?_⟩
  · obtain ⟨k, hk⟩ := List.mem_iff_getElem?.1 e
    rw [List.getElem?_take] at hk
    split at hk
    · rename_i hlt
      exact h2 k hlt hk
    · cases hk
  · obtain ⟨hlt, he⟩ := List.getElem?_eq_some_iff.1 h1
    conv => lhs; rw [← List.take_append_drop o l, List.drop_eq_getElem_cons hlt, he]
/-- the library's split at one byte. -/
theorem splitK_one (c : UInt8) : ∀ (k : Nat) (l : List UInt8), l.count c = k → Lib.splitK [c] 0 k l = splitC c l
  | 0, l, h => by
    rw [Lib.splitK, splitC_none c l (List.count_eq_zero.1 h)]
  | k + 1, l, h => by
    rw [Lib.splitK, Lib.index_one]
    have hmem : c ∈ l := List.count_pos_iff.1 (by omega)
    split
    · rename_i hm
      exact absurd hmem (index_none (by simpa using hm))
    · rename_i hm
      have hge := Lib.indexByte_ge l c
      have hm' : Lib.indexByte l c ≠ -1 := by simpa using hm
      obtain ⟨o, ho⟩ : ∃ o : Nat, Lib.indexByte l c = o := ⟨(Lib.indexByte l c).toNat, by omega⟩
      obtain ⟨hn, he⟩ := index_hit ho
      rw [ho, Int.toNat_natCast, Nat.add_zero, List.length_singleton]
      have hc : (l.drop (o + 1)).count c = k := by
        rw [he, List.count_append, List.count_eq_zero.2 hn, List.count_cons_self] at h
        omega
      rw [splitK_one c k _ hc]
      conv => rhs; rw [he, splitC_hit c _ _ hn]
theorem split_one (c : UInt8) (l : List UInt8) : Lib.splitK [c] 0 (Lib.count l [c]) l = splitC c l := splitK_one c _ l (Lib.count_one c l).symm
/-- the lines of a text, each with its end. -/
def linesL (l : List UInt8) : List (List UInt8) := ((splitC 10 l).dropLast.map (· ++ [10])) ++ (if (splitC 10 l).getLast (splitC_ne 10 l) = [] then [] else [(splitC 10 l).getLast (splitC_ne 10 l)])
theorem linesL_nil : linesL [] = [] := by simp [linesL, splitC]
theorem linesL_none {l : List UInt8} (h : (10 : UInt8) ∉ l) (hl : l ≠ []) : linesL l = [l] := by
  unfold linesL
  simp only [splitC_none 10 l h, List.dropLast_singleton, List.map_nil, List.nil_append, List.getLast_singleton]
  rw [if_neg hl]
theorem linesL_hit {l r : List UInt8} (h : (10 : UInt8) ∉ l) : linesL (l ++ 10 :: r) = (l ++ [10]) :: linesL r := by
  unfold linesL
  have hne := splitC_ne 10 r
  simp only [splitC_hit 10 r l h]
  rw [List.dropLast_cons_of_ne_nil hne, List.map_cons, List.cons_append]
  simp only [List.getLast_cons hne]
/-- an integer of at most nine digits, without a sign and without leading zeros. -/
def valD (l : List UInt8) : Int := l.foldl (fun n c => 10 * n + ((c.toNat : Int) - 48)) 0
def isD (c : UInt8) : Bool := 48 ≤ c && c ≤ 57
def digOk (l : List UInt8) : Bool := l.length ≠ 0 && l.length ≤ 9 && (l.length = 1 || l[0]? ≠ some 48) && l.all isD
theorem splitC_free (c : UInt8) : ∀ (l p : List UInt8), p ∈ splitC c l → c ∉ p
  | [], p, h => by
    simp only [splitC, List.mem_singleton] at h
    rw [h]; simp
  | x :: t, p, h => by
    have ih := splitC_free c t
    rw [splitC] at h
    by_cases hx : x = c
    · rw [if_pos hx] at h
      rcases List.mem_cons.1 h with rfl | h
      · simp
      · exact ih p h
    · rw [if_neg hx] at h
      cases hs : splitC c t with
      | nil => exact absurd hs (splitC_ne c t)
      | cons q qs =>
        rw [hs] at h ih
        rcases List.mem_cons.1 h with rfl | h
        · intro e
          rcases List.mem_cons.1 e with e | e
          · exact hx e.symm
          · exact ih q (List.mem_cons_self ..) e
        · exact ih p (List.mem_cons_of_mem _ h)
theorem valD_snoc (l : List UInt8) (b : UInt8) : valD (l ++ [b]) = 10 * valD l + ((b.toNat : Int) - 48) := by
  simp [valD, List.foldl_append]
theorem isD_iff (b : UInt8) : isD b = true ↔ 48 ≤ b.toNat ∧ b.toNat ≤ 57 := by
  unfold isD
  rw [Bool.and_eq_true, decide_eq_true_eq, decide_eq_true_eq, UInt8.le_iff_toNat_le, UInt8.le_iff_toNat_le]
  rfl
theorem valD_bd : ∀ (k : Nat) (l : List UInt8), l.length = k → l.all isD = true → 0 ≤ valD l ∧ valD l < 10 ^ k
  | 0, l, h, _ => by
    obtain rfl := List.length_eq_zero_iff.1 h
    exact ⟨by decide, by decide⟩
  | k + 1, l, h, ha => by
    obtain ⟨l', b, rfl⟩ : ∃ l' b, l = l' ++ [b] := ⟨l.dropLast, l.getLast (by intro e; rw [e] at h; cases h), (List.dropLast_concat_getLast _).symm⟩
    rw [List.length_append, List.length_singleton] at h
    rw [List.all_append, Bool.and_eq_true] at ha
    have ih := valD_bd k l' (by omega) ha.1
    have hb := (isD_iff b).1 (by simpa using ha.2)
    rw [valD_snoc, Int.pow_succ]
    omega
theorem valD_9 {l : List UInt8} (h : l.length ≤ 9) (ha : l.all isD = true) : 0 ≤ valD l ∧ valD l ≤ 999999999 := by
  have h1 := valD_bd l.length l rfl ha
  have h2 : (10 : Int) ^ l.length ≤ 10 ^ 9 := by
    have : (10 : Nat) ^ l.length ≤ 10 ^ 9 := Nat.pow_le_pow_right (by decide) h
    exact_mod_cast this
  have h3 : (10 : Int) ^ 9 = 1000000000 := by decide
  omega
theorem take_snoc (l : List UInt8) (k : Nat) (hk : k < l.length) : l.take (k + 1) = l.take k ++ [l[k]?.getD 0] := by
  rw [List.take_add_one, List.getElem?_eq_getElem hk]; rfl
theorem data_len (s : ByteArray) : s.data.toList.length = s.size := by cases s; rfl
theorem digOk_false {l : List UInt8} (h : l.length = 0 ∨ 9 < l.length ∨ (l.length ≠ 1 ∧ l[0]?.getD 0 = 48) ∨ ∃ k, k < l.length ∧ isD (l[k]?.getD 0) = false) : digOk l = false := by
  unfold digOk
  rcases h with h | h | ⟨h1, h2⟩ | ⟨k, hk, h⟩
  · simp [h]
  · rw [decide_eq_false (show ¬ l.length ≤ 9 by omega)]; simp
  · rcases Nat.eq_zero_or_pos l.length with h0 | h0
    · simp [h0]
    · have : l[0]? = some 48 := by rw [List.getElem?_eq_getElem h0] at h2 ⊢; rw [← h2]; rfl
      simp [h1, this]
  · have : l.all isD = false := by
      rw [List.all_eq_false]
      exact ⟨l[k], List.getElem_mem hk, by rw [List.getElem?_eq_getElem hk] at h; simpa using h⟩
    rw [this]; simp
theorem digOk_true {l : List UInt8} (h0 : l.length ≠ 0) (h9 : l.length ≤ 9) (h1 : l.length = 1 ∨ l[0]?.getD 0 ≠ 48) (ha : l.all isD = true) : digOk l = true := by
  unfold digOk
  rw [ha]
  rcases h1 with h1 | h1
  · simp [h1]
  · have : l[0]? ≠ some 48 := fun e => h1 (by rw [e]; rfl)
    simp [h0, h9, this]
def digV (l : List UInt8) : Int := if digOk l = true then valD l else 0
theorem digV_false {l : List UInt8} (h : digOk l = false) : digV l = 0 := by unfold digV; rw [h]; rfl
theorem digV_true {l : List UInt8} (h : digOk l = true) : digV l = valD l := by unfold digV; rw [if_pos h]
theorem byteAt (s : ByteArray) (k : Nat) (hk : k < s.size) : s[k]'hk = s.data.toList[k]?.getD 0 := by
  have hk' : k < s.data.size := hk
  rw [List.getElem?_eq_getElem (by simpa using hk')]
  rfl
abbrev strV (p : List UInt8) : Value := .string ⟨p.toArray⟩
theorem baEq {a b : ByteArray} (h : a.data.toList = b.data.toList) : a = b := by
  obtain ⟨⟨x⟩⟩ := a
  obtain ⟨⟨y⟩⟩ := b
  simp only at h
  rw [h]
theorem data_append (a b : ByteArray) : (a ++ b).data.toList = a.data.toList ++ b.data.toList := by
  rw [ByteArray.data_append, Array.toList_append]
theorem pieceAt (s : ByteArray) (k : Nat) (hk : k < s.size) : (s.extract k (k + 1)).data.toList = [s.data.toList[k]?.getD 0] := by
  have hk' : k < s.data.toList.length := by rw [data_len]; exact hk
  rw [ByteArray.data_extract, Array.toList_extract, List.getElem?_eq_getElem hk', List.extract_eq_take_drop, show k + 1 - k = 1 by omega, List.drop_eq_getElem_cons hk']
  rfl
theorem growAt (s : ByteArray) (k : Nat) (hk : k < s.size) (p : List UInt8) : (⟨p.toArray⟩ : ByteArray) ++ s.extract k (k + 1) = ⟨(p ++ [s.data.toList[k]?.getD 0]).toArray⟩ := by
  apply baEq
  rw [data_append, pieceAt s k hk]
theorem splitC_len (c : UInt8) : ∀ (l p : List UInt8), p ∈ splitC c l → p.length ≤ l.length
  | [], p, h => by
    simp only [splitC, List.mem_singleton] at h
    rw [h]; simp
  | x :: t, p, h => by
    have ih := splitC_len c t
    rw [splitC] at h
    by_cases hx : x = c
    · rw [if_pos hx] at h
      rcases List.mem_cons.1 h with rfl | h
      · simp
      · have := ih p h
        rw [List.length_cons]; omega
    · rw [if_neg hx] at h
      cases hs : splitC c t with
      | nil => exact absurd hs (splitC_ne c t)
      | cons q qs =>
        rw [hs] at h ih
        rcases List.mem_cons.1 h with rfl | h
        · have := ih q (List.mem_cons_self ..)
          rw [List.length_cons, List.length_cons]; omega
        · have := ih p (List.mem_cons_of_mem _ h)
          rw [List.length_cons]; omega
theorem mk_size (p : List UInt8) : (⟨p.toArray⟩ : ByteArray).size = p.length := by simp [ByteArray.size]
theorem concat_of_ne {α : Type} {l : List α} (h : l ≠ []) : ∃ q p, l = q ++ [p] := ⟨l.dropLast, l.getLast h, (List.dropLast_concat_getLast h).symm⟩
def endsL (l : List UInt8) : Bool := l.getLast? == some 10
def bodyL (l : List UInt8) : List UInt8 := if endsL l = true then l.dropLast else l
theorem suffix_one (l : List UInt8) : Lib.hasSuffix l [10] = endsL l := by
  unfold endsL
  show List.isSuffixOf [10] l = _
  rcases List.eq_nil_or_concat l with rfl | ⟨a, b, rfl⟩
  · rfl
  · rw [List.concat_eq_append, List.getLast?_concat]
    by_cases h : b = 10
    · subst h
      rw [List.isSuffixOf_iff_suffix.2 (List.suffix_append a [10])]
      rfl
    · have h1 : ¬ ([10] : List UInt8) <:+ a ++ [b] := fun ⟨t, ht⟩ => by
        have := (List.append_inj' ht rfl).2
        simp at this
        exact h this.symm
      rw [show List.isSuffixOf [10] (a ++ [b]) = false by rw [Bool.eq_false_iff]; exact fun e => h1 (List.isSuffixOf_iff_suffix.1 e)]
      simp [h]
theorem trim_one (l : List UInt8) : Lib.trimSuffix l [10] = bodyL l := by
  unfold Lib.trimSuffix bodyL
  rw [suffix_one]
  by_cases h : endsL l = true
  · rw [if_pos h, if_pos h, List.dropLast_eq_take]; rfl
  · rw [if_neg h, if_neg h]
theorem linesL_len (L : List UInt8) : (linesL L).length ≤ L.length + 1 := by
  have h := splitC_length 10 L
  have h2 : L.count 10 ≤ L.length := List.count_le_length
  unfold linesL
  rw [List.length_append, List.length_map, List.length_dropLast]
  split <;> simp <;> omega
theorem lineL_len {L x : List UInt8} (h : x ∈ linesL L) : x.length ≤ L.length + 1 := by
  unfold linesL at h
  rcases List.mem_append.1 h with h | h
  · obtain ⟨p, hp, rfl⟩ := List.mem_map.1 h
    have := splitC_len 10 L p (List.dropLast_subset _ hp)
    rw [List.length_append, List.length_singleton]; omega
  · split at h
    · simp at h
    · have := splitC_len 10 L x (by rw [List.mem_singleton.1 h]; exact List.getLast_mem _)
      omega
theorem bodyL_len (l : List UInt8) : (bodyL l).length ≤ l.length := by
  unfold bodyL
  split
  · rw [List.length_dropLast]; omega
  · exact Nat.le_refl _
/-- the parts of a text: whole lines, and what stands behind the last end. -/
theorem parts (L : List UInt8) : ∃ init last, splitC 10 L = init ++ [last] ∧ (10 : UInt8) ∉ last ∧ linesL L = init.map (· ++ [10]) ++ (if last = [] then [] else [last]) := by
  have hne := splitC_ne 10 L
  refine ⟨(splitC 10 L).dropLast, (splitC 10 L).getLast hne, (List.dropLast_concat_getLast hne).symm, splitC_free 10 L _ (List.getLast_mem hne), rfl⟩
theorem ofNat_toNat {k : Nat} (h : k < 10) : (UInt8.ofNat (48 + k)).toNat = 48 + k := by
  rw [UInt8.toNat_ofNat']; omega
theorem dig_step (u : Nat) : Lib.decDigits u = if u < 10 then [UInt8.ofNat (48 + u)] else Lib.decDigits (u / 10) ++ [UInt8.ofNat (48 + u % 10)] := by
  rw [Lib.decDigits]
  by_cases h : u < 10
  · rw [dif_pos h, if_pos h]
  · rw [dif_neg h, if_neg h]
theorem isD_of {k : Nat} (h : k < 10) : isD (UInt8.ofNat (48 + k)) = true := (isD_iff _).2 (by rw [ofNat_toNat h]; omega)
theorem dig_all (u : Nat) : (Lib.decDigits u).all isD = true ∧ valD (Lib.decDigits u) = (u : Int) ∧ 0 < (Lib.decDigits u).length ∧ ((Lib.decDigits u).length = 1 ∨ (Lib.decDigits u)[0]?.getD 0 ≠ 48) ∧ (0 < u → (Lib.decDigits u)[0]?.getD 0 ≠ 48) := by
  induction u using Nat.strongRecOn with
  | _ u ih =>
    rw [dig_step]
    by_cases h : u < 10
    · rw [if_pos h]
      refine ⟨by rw [List.all_cons, isD_of h]; rfl, ?_, by simp, .inl rfl, fun h0 => ?_⟩
      · simp [valD, ofNat_toNat h]; omega
      · intro e
        have := congrArg UInt8.toNat e
        simp [ofNat_toNat h] at this
        have h2 := ofNat_toNat h
        omega
    · rw [if_neg h]
      obtain ⟨h1, h2, h3, h4, h5⟩ := ih (u / 10) (by omega)
      have hr : u % 10 < 10 := by omega
      have hh : (Lib.decDigits (u / 10) ++ [UInt8.ofNat (48 + u % 10)])[0]?.getD 0 = (Lib.decDigits (u / 10))[0]?.getD 0 := by rw [List.getElem?_append_left h3]
      refine ⟨by rw [List.all_append, h1, List.all_cons, isD_of hr]; rfl, ?_, by simp, .inr ?_, fun _ => ?_⟩
      · rw [valD_snoc, h2, ofNat_toNat hr]; omega
      · rw [hh]; exact h5 (by omega)
      · rw [hh]; exact h5 (by omega)
theorem dig_len : ∀ (d u : Nat), u < 10 ^ (d + 1) → (Lib.decDigits u).length ≤ d + 1
  | 0, u, h => by
    rw [dig_step, if_pos (by simpa using h)]; simp
  | d + 1, u, h => by
    rw [dig_step]
    by_cases h10 : u < 10
    · rw [if_pos h10]; simp
    · rw [if_neg h10, List.length_append, List.length_singleton]
      have := dig_len d (u / 10) (by rw [Nat.pow_succ] at h; omega)
      omega
theorem digOk_dec {u : Nat} (h : u < 1000000000) : digOk (Lib.decDigits u) = true := by
  obtain ⟨h1, _, h3, h4, _⟩ := dig_all u
  exact digOk_true (by omega) (dig_len 8 u (by simpa using h)) h4 h1
/-- a word that is an integer is the integer's text. -/
theorem dec_val : ∀ (n : Nat) (l : List UInt8), l.length = n → 0 < n → l.all isD = true → (n = 1 ∨ l[0]?.getD 0 ≠ 48) → Lib.decDigits (valD l).toNat = l
  | 0, l, _, h, _, _ => by omega
  | 1, l, hl, _, ha, _ => by
    match l, hl with
    | [b], _ =>
      have hb := (isD_iff b).1 (by simpa using ha)
      have hv : valD [b] = (b.toNat : Int) - 48 := by simp [valD]
      rw [hv, dig_step, if_pos (by omega), show ((b.toNat : Int) - 48).toNat = b.toNat - 48 by omega, show 48 + (b.toNat - 48) = b.toNat by omega]
      simp
  | n + 2, l, hl, _, ha, hz => by
    obtain ⟨l', b, rfl⟩ : ∃ l' b, l = l' ++ [b] := ⟨l.dropLast, l.getLast (by intro e; rw [e] at hl; cases hl), (List.dropLast_concat_getLast _).symm⟩
    rw [List.length_append, List.length_singleton] at hl
    have hl' : l'.length = n + 1 := by omega
    rw [List.all_append, Bool.and_eq_true] at ha
    have hb := (isD_iff b).1 (by simpa using ha.2)
    have hh : l'[0]?.getD 0 ≠ 48 := by
      rcases hz with hz | hz
      · omega
      · rwa [List.getElem?_append_left (by omega)] at hz
    have ih := dec_val (n + 1) l' hl' (by omega) ha.1 (.inr hh)
    have hbd := valD_bd l'.length l' rfl ha.1
    have hpos : 0 < valD l' := by
      rcases Int.lt_or_le 0 (valD l') with h | h
      · exact h
      · exfalso
        have h0 : valD l' = 0 := by omega
        rw [h0] at ih
        have : l' = [48] := by rw [← ih]; show Lib.decDigits 0 = [48]; rw [dig_step]; rfl
        rw [this] at hh
        exact hh rfl
    rw [valD_snoc, dig_step, if_neg (by omega), show (10 * valD l' + ((b.toNat : Int) - 48)).toNat / 10 = (valD l').toNat by omega, show (10 * valD l' + ((b.toNat : Int) - 48)).toNat % 10 = b.toNat - 48 by omega, ih, show 48 + (b.toNat - 48) = b.toNat by omega]
    simp
theorem dec_of_digOk {l : List UInt8} (h : digOk l = true) : Lib.decDigits (valD l).toNat = l := by
  unfold digOk at h
  simp only [Bool.and_eq_true, decide_eq_true_eq, Bool.or_eq_true] at h
  obtain ⟨⟨⟨h0, _⟩, h1⟩, ha⟩ := h
  refine dec_val l.length l rfl (by omega) ha (h1.imp id fun h => ?_)
  intro e
  apply h
  have h0' : 0 < l.length := by omega
  rw [List.getElem?_eq_getElem h0'] at e ⊢
  rw [← e]; rfl
theorem not_isD {c : UInt8} {l : List UInt8} (hc : isD c = false) (h : l.all isD = true) : c ∉ l := fun e => by
  have := List.all_eq_true.1 h c e
  rw [hc] at this; cases this
/-- the parts of a text make the text. -/
def joinC (c : UInt8) : List (List UInt8) → List UInt8
  | [] => []
  | [p] => p
  | p :: q :: r => p ++ c :: joinC c (q :: r)
theorem joinC_split (c : UInt8) : ∀ l, joinC c (splitC c l) = l
  | [] => rfl
  | x :: t => by
    have ih := joinC_split c t
    rw [splitC]
    by_cases h : x = c
    · rw [if_pos h]
      cases hs : splitC c t with
      | nil => exact absurd hs (splitC_ne c t)
      | cons p ps =>
        rw [hs] at ih
        rw [joinC, ih, h]; rfl
    · rw [if_neg h]
      cases hs : splitC c t with
      | nil => exact absurd hs (splitC_ne c t)
      | cons p ps =>
        rw [hs] at ih
        cases ps with
        | nil => simp only [joinC] at ih ⊢; rw [ih]
        | cons q r => simp only [joinC] at ih ⊢; rw [List.cons_append, ih]
theorem flat_lines (l : List UInt8) : (linesL l).flatten = l := by
  have hj := joinC_split 10 l
  have key : ∀ (init : List (List UInt8)) (last : List UInt8), joinC 10 (init ++ [last]) = ((init.map (· ++ [10])) ++ (if last = [] then [] else [last])).flatten := by
    intro init last
    induction init with
    | nil => by_cases h : last = [] <;> simp [joinC, h]
    | cons p t ih =>
      have : joinC 10 ((p :: t) ++ [last]) = p ++ 10 :: joinC 10 (t ++ [last]) := by
        cases t with
        | nil => rfl
        | cons q r => rfl
      rw [this, ih, List.map_cons, List.cons_append, List.flatten_cons, List.append_assoc]
      rfl
  obtain ⟨init, last, hs, _, hl⟩ := parts l
  rw [hl, ← key, ← hs, hj]
theorem beq_data (a b : ByteArray) : (a == b) = decide (a = b) := by
  obtain ⟨x⟩ := a
  obtain ⟨y⟩ := b
  show (x == y) = _
  by_cases h : x = y
  · subst h; simp
  · rw [beq_eq_false_iff_ne.2 h]
    exact (decide_eq_false (fun e => h (ByteArray.mk.inj e))).symm
end

section
set_option linter.unusedSimpArgs false
set_option linter.unusedVariables false
open Go.RowKit
/-- a word of an integer with its sign. -/
def sgOk (p : List UInt8) : Bool := if p.head? = some 45 then digOk p.tail && decide (0 < valD p.tail) else digOk p
def sgV (p : List UInt8) : Int := if p.head? = some 45 then -valD p.tail else valD p
/-- what the program's taker says of a word. -/
def numBad (p : List UInt8) : Bool := match Lib.atoiAll p with
  | .ok v => decide (9 < (Lib.trimPrefix p [45]).length) || decide (Lib.itoa v ≠ p)
  | _ => true
theorem trim_45 (p : List UInt8) : Lib.trimPrefix p [45] = if p.head? = some 45 then p.tail else p := by
  cases p with
  | nil => rfl
  | cons c t =>
    unfold Lib.trimPrefix
    by_cases h : c = 45
    · subst h
      simp [Lib.hasPrefix, List.isPrefixOf]
    · have h' : (45 == c) = false := by rw [beq_eq_false_iff_ne]; exact fun e => h e.symm
      simp [Lib.hasPrefix, List.isPrefixOf, h, h']
theorem dig_of_digOk {l : List UInt8} (h : digOk l = true) : l.length ≠ 0 ∧ l.length ≤ 9 ∧ l.all isD = true := by
  unfold digOk at h
  simp only [Bool.and_eq_true, decide_eq_true_eq] at h
  exact ⟨h.1.1.1, h.1.1.2, h.2⟩
theorem itoa_sg {p : List UInt8} (h : sgOk p = true) : Lib.itoa (sgV p) = p := by
  unfold sgOk at h
  unfold sgV
  by_cases h45 : p.head? = some 45
  · rw [if_pos h45, Bool.and_eq_true, decide_eq_true_eq] at h
    rw [if_pos h45]
    obtain ⟨c, t, rfl⟩ : ∃ c t, p = c :: t := by
      cases p with
      | nil => cases h45
      | cons c t => exact ⟨c, t, rfl⟩
    simp only [List.head?_cons, Option.some.injEq, List.tail_cons] at h45 h ⊢
    subst h45
    have e := Lib.itoa_neg (valD t).toNat (by omega)
    rw [show ((valD t).toNat : Int) = valD t by omega, dec_of_digOk h.1] at e
    exact e
  · rw [if_neg h45] at h ⊢
    have hb := valD_9 (dig_of_digOk h).2.1 (dig_of_digOk h).2.2
    have e := Lib.itoa_nonneg (valD p).toNat
    rw [show ((valD p).toNat : Int) = valD p by omega, dec_of_digOk h] at e
    exact e
theorem head_dig (u : Nat) : (Lib.decDigits u).head? ≠ some 45 := by
  obtain ⟨h1, _, h3, _, _⟩ := dig_all u
  intro e
  cases hd : Lib.decDigits u with
  | nil => rw [hd] at h3; simp at h3
  | cons c t =>
    rw [hd] at e h1
    simp only [List.head?_cons, Option.some.injEq] at e
    subst e
    rw [List.all_cons] at h1
    simp [isD] at h1
theorem sg_itoa {n : Int} (h0 : -1000000000 < n) (h1 : n < 1000000000) : sgOk (Lib.itoa n) = true ∧ sgV (Lib.itoa n) = n := by
  unfold sgOk sgV
  rcases Int.lt_or_le n 0 with hn | hn
  · obtain ⟨u, rfl⟩ : ∃ u : Nat, n = -(u : Int) := ⟨n.natAbs, by omega⟩
    rw [Lib.itoa_neg u (by omega)]
    have e1 : (45 :: Lib.decDigits u).head? = some (45 : UInt8) := rfl
    rw [if_pos e1, if_pos e1]
    show (digOk (Lib.decDigits u) && decide (0 < valD (Lib.decDigits u))) = true ∧ -valD (Lib.decDigits u) = -(u : Int)
    rw [digOk_dec (by omega), (dig_all u).2.1, Bool.true_and, decide_eq_true_eq]
    exact ⟨by omega, rfl⟩
  · obtain ⟨u, rfl⟩ : ∃ u : Nat, n = (u : Int) := ⟨n.toNat, by omega⟩
    rw [Lib.itoa_nonneg u, if_neg (head_dig u), if_neg (head_dig u)]
    exact ⟨digOk_dec (by omega), (dig_all u).2.1⟩
theorem decFrom_val : ∀ (l : List UInt8) (acc : Nat), l.all isD = true → ∃ m : Nat, Lib.decFrom acc l = some m ∧ (m : Int) = l.foldl (fun n c => 10 * n + ((c.toNat : Int) - 48)) (acc : Int)
  | [], acc, _ => ⟨acc, rfl, rfl⟩
  | c :: r, acc, h => by
    rw [List.all_cons, Bool.and_eq_true] at h
    have hc := (isD_iff c).1 h.1
    obtain ⟨m, h1, h2⟩ := decFrom_val r (acc * 10 + (c.toNat - 48)) h.2
    refine ⟨m, ?_, ?_⟩
    · simp only [Lib.decFrom, Lib.digitVal, if_pos hc]
      exact h1
    · rw [h2, List.foldl_cons]
      congr 1
      omega
theorem decNat_val {l : List UInt8} (h0 : l.length ≠ 0) (h : l.all isD = true) : Lib.decNat l = some (valD l).toNat := by
  obtain ⟨m, h1, h2⟩ := decFrom_val l 0 h
  have hne : l.isEmpty = false := by cases l with
    | nil => simp at h0
    | cons => rfl
  unfold Lib.decNat
  rw [hne]
  simp only [Bool.false_eq_true, if_false]
  rw [h1]
  have : (m : Int) = valD l := h2
  congr 1
  omega
theorem num_val {p : List UInt8} (h : sgOk p = true) : Lib.atoiAll p = .ok (sgV p) := by
  unfold sgOk at h
  unfold sgV
  by_cases h45 : p.head? = some 45
  · rw [if_pos h45, Bool.and_eq_true, decide_eq_true_eq] at h
    rw [if_pos h45]
    obtain ⟨c, t, rfl⟩ : ∃ c t, p = c :: t := by
      cases p with
      | nil => cases h45
      | cons c t => exact ⟨c, t, rfl⟩
    simp only [List.head?_cons, Option.some.injEq, List.tail_cons] at h45 h ⊢
    subst h45
    obtain ⟨d0, d9, da⟩ := dig_of_digOk h.1
    rw [Lib.atoiAll_short _ (by simp; omega)]
    simp only [Lib.atoi]
    rw [if_pos (by rfl), decNat_val d0 da]
    simp only [Option.map_some, Lib.NumEnd.ofOption]
    congr 1
    omega
  · rw [if_neg h45] at h ⊢
    obtain ⟨d0, d9, da⟩ := dig_of_digOk h
    have hb := valD_9 d9 da
    rw [Lib.atoiAll_short _ (by omega)]
    have e : Lib.atoi p = some (valD p) := by
      cases p with
      | nil => simp at d0
      | cons c t =>
        have hc := (isD_iff c).1 (by rw [List.all_cons, Bool.and_eq_true] at da; exact da.1)
        have n1 : (c == 45) = false := by rw [beq_eq_false_iff_ne]; rintro rfl; exact absurd hc.1 (by decide)
        have n2 : (c == 43) = false := by rw [beq_eq_false_iff_ne]; rintro rfl; exact absurd hc.1 (by decide)
        simp only [Lib.atoi, n1, n2, Bool.false_eq_true, if_false]
        rw [decNat_val d0 da]
        simp only [Option.map_some]
        congr 1
        omega
    rw [e]; rfl
theorem numBad_eq (p : List UInt8) : numBad p = !sgOk p := by
  cases h : sgOk p with
  | true =>
    unfold numBad
    rw [num_val h]
    simp only
    rw [itoa_sg h, trim_45]
    unfold sgOk at h
    by_cases h45 : p.head? = some 45
    · rw [if_pos h45, Bool.and_eq_true] at h
      have := (dig_of_digOk h.1).2.1
      rw [if_pos h45, decide_eq_false (by omega)]; simp
    · rw [if_neg h45] at h ⊢
      have := (dig_of_digOk h).2.1
      rw [decide_eq_false (by omega)]; simp
  | false =>
    unfold numBad
    cases ha : Lib.atoiAll p
    · rename_i v
      simp only
      by_cases hi : Lib.itoa v = p
      · have ht := trim_45 p
        rw [decide_eq_false (show ¬ Lib.itoa v ≠ p from fun e => e hi), Bool.or_false]
        by_cases h9 : 9 < (Lib.trimPrefix p [45]).length
        · rw [decide_eq_true h9]; rfl
        · exfalso
          rw [ht] at h9
          rcases Int.lt_or_le v 0 with hn | hn
          · obtain ⟨u, rfl⟩ : ∃ u : Nat, v = -(u : Int) := ⟨v.natAbs, by omega⟩
            have hi' := hi
            rw [Lib.itoa_neg u (by omega)] at hi'
            rw [← hi'] at h9
            simp only [List.head?_cons, if_true, List.tail_cons] at h9
            obtain ⟨d1, d2, _⟩ := dig_all u
            have := valD_9 (by omega) d1
            have hs := (sg_itoa (n := -(u : Int)) (by omega) (by omega)).1
            rw [hi, h] at hs; cases hs
          · obtain ⟨u, rfl⟩ : ∃ u : Nat, v = (u : Int) := ⟨v.toNat, by omega⟩
            have hi' := hi
            rw [Lib.itoa_nonneg u] at hi'
            rw [← hi', if_neg (head_dig u)] at h9
            obtain ⟨d1, d2, _⟩ := dig_all u
            have := valD_9 (by omega) d1
            have hs := (sg_itoa (n := (u : Int)) (by omega) (by omega)).1
            rw [hi, h] at hs; cases hs
      · rw [decide_eq_true hi]; simp
    · rfl
    · rfl

/-- a line of integers behind a word. -/
def lineI (wd : List UInt8) (ws : List (List UInt8)) : Option (List Int) :=
  match ws with
  | [] => none
  | w :: r => if w = wd ∧ r ≠ [] ∧ r.all sgOk = true then some (r.map sgV) else none
/-- the first words of the lines. -/
def fldL (n : Nat) : List UInt8 := (fldName n).data.toList
/-- the line at a place. -/
def lineN (n : Nat) (l : List UInt8) : Option (List Int) := if n < 4 ∧ endsL l = true then lineI (fldL n) (splitC 32 (bodyL l)) else none
/-- the first line that is wrong. -/
def badFrom : Nat → List (List UInt8) → Option Nat
  | _, [] => none
  | n, l :: r => if (lineN n l).isNone = true then some n else badFrom (n + 1) r
def badN (ls : List (List UInt8)) : Option Nat := badFrom 0 ls
/-- the polynomial at a place. -/
def polyN (ls : List (List UInt8)) (k : Nat) : List Int := ((ls[k]?).bind (lineN k)).getD []
theorem badFrom_some {l : List UInt8} : ∀ (ls : List (List UInt8)) (b n : Nat), ls[n]? = some l → lineN (b + n) l = none → (∀ j x, j < n → ls[j]? = some x → lineN (b + j) x ≠ none) → badFrom b ls = some (b + n)
  | [], b, n, h, _, _ => by simp at h
  | x :: r, b, 0, h, hp, _ => by
    simp only [List.getElem?_cons_zero, Option.some.injEq] at h
    subst h
    rw [badFrom, if_pos (by rw [show b = b + 0 from rfl, hp]; rfl)]; rfl
  | x :: r, b, n + 1, h, hp, hb => by
    have h0 := hb 0 x (by omega) rfl
    rw [Nat.add_zero] at h0
    rw [badFrom, if_neg (by cases hl : lineN b x with
      | none => exact absurd hl h0
      | some _ => simp)]
    rw [badFrom_some r (b + 1) n (by simpa using h) (by rw [show b + 1 + n = b + (n + 1) by omega]; exact hp) (fun j y hj hy => by
      rw [show b + 1 + j = b + (j + 1) by omega]
      exact hb (j + 1) y (by omega) (by simpa using hy))]
    congr 1
    omega
theorem badN_some {ls : List (List UInt8)} {n : Nat} {l : List UInt8} (h : ls[n]? = some l) (hp : lineN n l = none) (hb : ∀ j x, j < n → ls[j]? = some x → lineN j x ≠ none) : badN ls = some n := by
  have := badFrom_some ls 0 n h (by rw [Nat.zero_add]; exact hp) (fun j x hj hx => by rw [Nat.zero_add]; exact hb j x hj hx)
  rw [Nat.zero_add] at this
  exact this
theorem badFrom_none : ∀ (ls : List (List UInt8)) (b : Nat), (∀ j x, ls[j]? = some x → lineN (b + j) x ≠ none) → badFrom b ls = none
  | [], _, _ => rfl
  | x :: r, b, hb => by
    have h0 := hb 0 x rfl
    rw [Nat.add_zero] at h0
    rw [badFrom, if_neg (by cases hl : lineN b x with
      | none => exact absurd hl h0
      | some _ => simp)]
    exact badFrom_none r (b + 1) (fun j y hy => by
      rw [show b + 1 + j = b + (j + 1) by omega]
      exact hb (j + 1) y (by simpa using hy))
theorem badN_none {ls : List (List UInt8)} (hb : ∀ j x, ls[j]? = some x → lineN j x ≠ none) : badN ls = none :=
  badFrom_none ls 0 (fun j x hx => by rw [Nat.zero_add]; exact hb j x hx)
theorem badFrom_inv : ∀ (ls : List (List UInt8)) (b : Nat), badFrom b ls = none → ∀ j x, ls[j]? = some x → lineN (b + j) x ≠ none
  | [], b, _, j, x, h => by simp at h
  | y :: r, b, hb, j, x, h => by
    rw [badFrom] at hb
    by_cases hn : (lineN b y).isNone = true
    · rw [if_pos hn] at hb; cases hb
    · rw [if_neg hn] at hb
      cases j with
      | zero =>
        simp only [List.getElem?_cons_zero, Option.some.injEq] at h
        subst h
        intro e
        rw [Nat.add_zero] at e
        rw [e] at hn
        exact hn rfl
      | succ j =>
        rw [show b + (j + 1) = b + 1 + j by omega]
        exact badFrom_inv r (b + 1) hb j x (by simpa using h)
theorem badN_inv {ls : List (List UInt8)} (h : badN ls = none) : ∀ j x, ls[j]? = some x → lineN j x ≠ none := fun j x hx => by
  have := badFrom_inv ls 0 h j x hx
  rwa [Nat.zero_add] at this
theorem lineN_none {n : Nat} (h : 4 ≤ n) (l : List UInt8) : lineN n l = none := by
  unfold lineN
  rw [if_neg (by omega)]
theorem badN_len {ls : List (List UInt8)} (h : badN ls = none) : ls.length ≤ 4 := by
  rcases Nat.lt_or_ge 4 ls.length with h4 | h4
  · exact absurd (lineN_none (Nat.le_refl 4) ls[4]) (badN_inv h 4 ls[4] (List.getElem?_eq_getElem h4))
  · exact h4
theorem endsL_end (p : List UInt8) : endsL (p ++ [10]) = true := by simp [endsL]
theorem bodyL_end (p : List UInt8) : bodyL (p ++ [10]) = p := by
  unfold bodyL
  rw [if_pos (endsL_end p), List.dropLast_concat]
theorem endsL_free {p : List UInt8} (h : (10 : UInt8) ∉ p) : endsL p = false := by
  unfold endsL
  rw [beq_eq_false_iff_ne]
  exact fun e => h (List.mem_of_getLast? e)
theorem lineN_end {n : Nat} (hn : n < 4) (p : List UInt8) : lineN n (p ++ [10]) = lineI (fldL n) (splitC 32 p) := by
  unfold lineN
  rw [if_pos ⟨hn, endsL_end p⟩, bodyL_end]
theorem lineN_free {n : Nat} {p : List UInt8} (h : (10 : UInt8) ∉ p) : lineN n p = none := by
  unfold lineN
  rw [if_neg]
  rw [endsL_free h]
  simp

/-- words joined, and parted. -/
theorem join_joinC (c : UInt8) : ∀ ws : List (List UInt8), Lib.join ws [c] = joinC c ws
  | [] => rfl
  | [p] => by simp [Lib.join, List.intercalate, joinC]
  | p :: q :: r => by
    have ih := join_joinC c (q :: r)
    unfold Lib.join at ih ⊢
    simp only [List.intercalate, List.intersperse_cons_cons, List.flatten_cons] at ih ⊢
    rw [joinC, ← ih]
    simp
theorem split_join (c : UInt8) : ∀ ws : List (List UInt8), ws ≠ [] → (∀ p ∈ ws, c ∉ p) → splitC c (joinC c ws) = ws
  | [], h, _ => absurd rfl h
  | [p], _, h => splitC_none c p (h p (List.mem_singleton.2 rfl))
  | p :: q :: r, _, h => by
    rw [joinC, splitC_hit c _ p (h p (List.mem_cons_self ..)), split_join c (q :: r) (by simp) (fun x hx => h x (List.mem_cons_of_mem _ hx))]
theorem itoa_free (c : UInt8) (hc : isD c = false) (h45 : c ≠ 45) (n : Int) : c ∉ Lib.itoa n := by
  rcases Int.lt_or_le n 0 with hn | hn
  · obtain ⟨u, rfl⟩ : ∃ u : Nat, n = -(u : Int) := ⟨n.natAbs, by omega⟩
    rw [Lib.itoa_neg u (by omega)]
    intro e
    rcases List.mem_cons.1 e with e | e
    · exact h45 e
    · exact not_isD hc (dig_all u).1 e
  · obtain ⟨u, rfl⟩ : ∃ u : Nat, n = (u : Int) := ⟨n.toNat, by omega⟩
    rw [Lib.itoa_nonneg u]
    exact not_isD hc (dig_all u).1
/-- a line's words, joined. -/
def bodyK (k : Nat) (l : List Int) : List UInt8 := joinC 32 (fldL k :: l.map Lib.itoa)
theorem fldL_free (k : Nat) (c : UInt8) (h : c = 10 ∨ c = 32) : c ∉ fldL k := by
  match k with
  | 0 => rcases h with rfl | rfl <;> decide
  | 1 => rcases h with rfl | rfl <;> decide
  | 2 => rcases h with rfl | rfl <;> decide
  | _ + 3 =>
    show c ∉ fldL 3
    rcases h with rfl | rfl <;> decide
theorem lineT_data (k : Nat) (l : List Int) : (lineT k l).data.toList = bodyK k l ++ [10] := by
  unfold lineT joinB lineW bodyK
  rw [data_append, join_joinC]
  simp [fldL, word, Function.comp_def]
theorem split_bodyK (k : Nat) (l : List Int) : splitC 32 (bodyK k l) = fldL k :: l.map Lib.itoa := by
  unfold bodyK
  refine split_join 32 _ (by simp) (fun p hp => ?_)
  rcases List.mem_cons.1 hp with rfl | hp
  · exact fldL_free k 32 (.inr rfl)
  · obtain ⟨n, _, rfl⟩ := List.mem_map.1 hp
    exact itoa_free 32 (by decide) (by decide) n
theorem joinC_free (c d : UInt8) (hcd : d ≠ c) : ∀ ws : List (List UInt8), (∀ p ∈ ws, d ∉ p) → d ∉ joinC c ws
  | [], _ => by simp [joinC]
  | [p], h => h p (List.mem_singleton.2 rfl)
  | p :: q :: r, h => by
    rw [joinC]
    intro e
    rcases List.mem_append.1 e with e | e
    · exact h p (List.mem_cons_self ..) e
    · rcases List.mem_cons.1 e with e | e
      · exact hcd e
      · exact joinC_free c d hcd (q :: r) (fun x hx => h x (List.mem_cons_of_mem _ hx)) e
theorem bodyK_free (k : Nat) (l : List Int) : (10 : UInt8) ∉ bodyK k l := by
  unfold bodyK
  refine joinC_free 32 10 (by decide) _ (fun p hp => ?_)
  rcases List.mem_cons.1 hp with rfl | hp
  · exact fldL_free k 10 (.inl rfl)
  · obtain ⟨n, _, rfl⟩ := List.mem_map.1 hp
    exact itoa_free 10 (by decide) (by decide) n
theorem lineN_body {k : Nat} (hk : k < 4) {l : List Int} (h0 : l ≠ []) (hl : ∀ x ∈ l, -1000000000 < x ∧ x < 1000000000) : lineN k (bodyK k l ++ [10]) = some l := by
  rw [lineN_end hk, split_bodyK]
  have ha : (l.map Lib.itoa).all sgOk = true := by
    rw [List.all_eq_true]
    intro p hp
    obtain ⟨x, hx, rfl⟩ := List.mem_map.1 hp
    exact (sg_itoa (hl x hx).1 (hl x hx).2).1
  have hm : (l.map Lib.itoa).map sgV = l := by
    rw [List.map_map]
    conv => rhs; rw [← List.map_id l]
    apply List.map_congr_left
    intro x hx
    exact (sg_itoa (hl x hx).1 (hl x hx).2).2
  show (if fldL k = fldL k ∧ l.map Lib.itoa ≠ [] ∧ (l.map Lib.itoa).all sgOk = true then some ((l.map Lib.itoa).map sgV) else none) = some l
  rw [if_pos ⟨rfl, by simpa using h0, ha⟩, hm]
/-- the text of four polynomials, in lines. -/
theorem printT_data (f : Nat → List Int) : ∀ n, (printT n f).data.toList = ((List.range n).map fun k => bodyK k (f k) ++ [10]).flatten
  | 0 => rfl
  | n + 1 => by
    rw [printT, data_append, printT_data f n, lineT_data, List.range_succ, List.map_append, List.flatten_append]
    simp
theorem split_flat : ∀ (ps : List (List UInt8)) (r : List UInt8), (∀ p ∈ ps, (10 : UInt8) ∉ p) → splitC 10 ((ps.map (· ++ [10])).flatten ++ r) = ps ++ splitC 10 r
  | [], r, _ => by simp
  | p :: t, r, h => by
    rw [List.map_cons, List.flatten_cons, List.append_assoc, List.append_assoc, List.singleton_append, splitC_hit 10 _ p (h p (List.mem_cons_self ..)), split_flat t r (fun x hx => h x (List.mem_cons_of_mem _ hx))]
    rfl
theorem split_print (f : Nat → List Int) (n : Nat) (r : List UInt8) : splitC 10 ((printT n f).data.toList ++ r) = ((List.range n).map fun k => bodyK k (f k)) ++ splitC 10 r := by
  rw [printT_data, show ((List.range n).map fun k => bodyK k (f k) ++ [10]) = ((List.range n).map fun k => bodyK k (f k)).map (· ++ [10]) by simp [Function.comp_def]]
  refine split_flat _ r (fun p hp => ?_)
  obtain ⟨k, _, rfl⟩ := List.mem_map.1 hp
  exact bodyK_free k _
theorem lines_print (f : Nat → List Int) (n : Nat) : linesL (printT n f).data.toList = (List.range n).map fun k => bodyK k (f k) ++ [10] := by
  have hs := split_print f n []
  rw [List.append_nil] at hs
  unfold linesL
  simp only [hs, splitC, List.dropLast_concat, List.getLast_concat]
  simp [Function.comp_def]
theorem parse_print {f : Nat → List Int} (h : ∀ k, k < 4 → f k ≠ [] ∧ ∀ x ∈ f k, -1000000000 < x ∧ x < 1000000000) :
    badN (linesL (printT 4 f).data.toList) = none ∧ (linesL (printT 4 f).data.toList).length = 4 ∧ ∀ k, k < 4 → polyN (linesL (printT 4 f).data.toList) k = f k := by
  rw [lines_print f 4]
  have hat : ∀ k, k < 4 → ((List.range 4).map fun k => bodyK k (f k) ++ [10])[k]? = some (bodyK k (f k) ++ [10]) := fun k hk => by
    rw [List.getElem?_map, List.getElem?_range hk]; rfl
  refine ⟨badN_none fun j x hx => ?_, by simp, fun k hk => ?_⟩
  · have hj : j < 4 := by
      have := (List.getElem?_eq_some_iff.1 hx).1
      simpa using this
    rw [hat j hj] at hx
    cases hx
    rw [lineN_body hj (h j hj).1 (h j hj).2]; simp
  · unfold polyN
    rw [hat k hk]
    simp only [Option.bind_some]
    rw [lineN_body hk (h k hk).1 (h k hk).2]; rfl
theorem line_of {k : Nat} {x : List UInt8} {l : List Int} (h : lineN k x = some l) : x = bodyK k l ++ [10] ∧ l ≠ [] := by
  unfold lineN at h
  by_cases hk : k < 4 ∧ endsL x = true
  · rw [if_pos hk] at h
    have hj := joinC_split 32 (bodyL x)
    unfold lineI at h
    cases hs : splitC 32 (bodyL x) with
    | nil => exact absurd hs (splitC_ne 32 _)
    | cons w r =>
      rw [hs] at h hj
      simp only at h
      by_cases hc : w = fldL k ∧ r ≠ [] ∧ r.all sgOk = true
      · rw [if_pos hc] at h
        cases h
        obtain ⟨rfl, h0, ha⟩ := hc
        have hr : (r.map sgV).map Lib.itoa = r := by
          rw [List.map_map]
          conv => rhs; rw [← List.map_id r]
          apply List.map_congr_left
          intro p hp
          exact itoa_sg (List.all_eq_true.1 ha p hp)
        refine ⟨?_, by simpa using h0⟩
        unfold bodyK
        rw [hr, hj]
        have he := hk.2
        unfold endsL at he
        unfold bodyL
        rw [if_pos hk.2]
        have hg : x.getLast? = some 10 := by simpa using he
        have hne : x ≠ [] := by rintro rfl; cases hg
        have hg2 : x.getLast hne = 10 := by rw [List.getLast?_eq_some_getLast hne] at hg; exact Option.some.inj hg
        conv => lhs; rw [← List.dropLast_concat_getLast hne, hg2]
      · rw [if_neg hc] at h; cases h
  · rw [if_neg hk] at h; cases h
/-- whatever is parsed is printed as it was. -/
theorem print_parse {L : List UInt8} (h : badN (linesL L) = none) (h4 : (linesL L).length = 4) : (printT 4 (polyN (linesL L))).data.toList = L := by
  have hf := flat_lines L
  conv => rhs; rw [← hf]
  rw [printT_data]
  congr 1
  generalize linesL L = ls at h h4
  apply List.ext_getElem?
  intro k
  by_cases hk : k < 4
  · rw [List.getElem?_map, List.getElem?_range hk, List.getElem?_eq_getElem (by omega)]
    have hx : ls[k]? = some ls[k] := List.getElem?_eq_getElem (by omega)
    have hn := badN_inv h k _ hx
    cases hl : lineN k ls[k] with
    | none => exact absurd hl hn
    | some l =>
      have hp : polyN ls k = l := by
        unfold polyN
        rw [hx]
        simp only [Option.bind_some]
        rw [hl]; rfl
      simp only [Option.map_some]
      rw [hp, ← (line_of hl).1]
  · rw [List.getElem?_eq_none (by simp; omega), List.getElem?_eq_none (by omega)]
/-- a text without its last byte. -/
theorem parse_short {f : Nat → List Int} (h : ∀ k, k < 4 → f k ≠ [] ∧ ∀ x ∈ f k, -1000000000 < x ∧ x < 1000000000) : badN (linesL (printT 4 f).data.toList.dropLast) = some 3 := by
  have hd : (printT 4 f).data.toList.dropLast = (printT 3 f).data.toList ++ bodyK 3 (f 3) := by
    rw [printT, data_append, lineT_data, ← List.append_assoc, List.dropLast_concat]
  have hs : splitC 10 ((printT 3 f).data.toList ++ bodyK 3 (f 3)) = ((List.range 3).map fun k => bodyK k (f k)) ++ [bodyK 3 (f 3)] := by
    rw [split_print, splitC_none 10 _ (bodyK_free 3 _)]
  rw [hd]
  have hne : bodyK 3 (f 3) ≠ [] := by
    unfold bodyK
    cases hm : (f 3).map Lib.itoa with
    | nil => simp [joinC, fldL, fldName]
    | cons a r => simp [joinC]
  have hl : linesL ((printT 3 f).data.toList ++ bodyK 3 (f 3)) = ((List.range 3).map fun k => bodyK k (f k) ++ [10]) ++ [bodyK 3 (f 3)] := by
    unfold linesL
    simp only [hs, List.dropLast_concat, List.getLast_concat]
    rw [if_neg hne]
    simp [Function.comp_def]
  rw [hl]
  refine badN_some (l := bodyK 3 (f 3)) (n := 3) ?_ (lineN_free (bodyK_free 3 _)) (fun j x hj hx => ?_)
  · rw [List.getElem?_append_right (by simp)]; simp
  · rw [List.getElem?_append_left (by simp; omega), List.getElem?_map, List.getElem?_range hj] at hx
    simp only [Option.map_some, Option.some.injEq] at hx
    rw [← hx, lineN_body (by omega) (h j (by omega)).1 (h j (by omega)).2]; simp
end

end Go.Proofs.YtfdehcphmmhjaaaGreatDoor

/- Plain facts: a text cut at a byte, lines, the digits of an integer. No program in sight. -/
import Derived.Lib.SplitLaws
import Derived.Lib.IndexBytes
import Derived.Test.YtfeajpkjjlddlaaGreatDoorHarC
import Derived.Laws.RangeAny
import Derived.Test.YtfeajpkjjlddlaaGreatDoorHpI
import Derived.Laws.DeepStrings4
import Derived.Test.YtfeajpkjjlddlaaGreatDoorHpJ
namespace Go.Proofs.YtfeajpkjjlddlaaGreatDoor
section
set_option linter.unusedSimpArgs false
set_option linter.unusedVariables false

/-- the parts of a text between the places of a byte. -/
def splitC (c : UInt8) : List UInt8 → List (List UInt8)
  | [] => [[]]
  | x :: t => if x = c then [] :: splitC c t else match splitC c t with
    | [] => [[x]]
    | p :: ps => (x :: p) :: ps
theorem splitC_ne (c : UInt8) : ∀ l, splitC c l ≠ []
  | [] => by simp [splitC]
  | x :: t => by
    unfold splitC
    split
    · simp
    · split <;> simp
/-- the last part grows. -/
def growLast (x : UInt8) : List (List UInt8) → List (List UInt8)
  | [] => [[x]]
  | [p] => [p ++ [x]]
  | p :: q :: r => p :: growLast x (q :: r)
theorem splitC_snoc (c x : UInt8) : ∀ l, splitC c (l ++ [x]) = if x = c then splitC c l ++ [[]] else growLast x (splitC c l)
  | [] => by
    by_cases h : x = c <;> simp [splitC, h, growLast]
  | y :: t => by
    have ih := splitC_snoc c x t
    have hne := splitC_ne c t
    rw [List.cons_append]
    by_cases hy : y = c
    · rw [splitC, if_pos hy, splitC, if_pos hy, ih]
      by_cases h : x = c
      · simp [h]
      · rw [if_neg h, if_neg h]
        cases hs : splitC c t with
        | nil => exact absurd hs hne
        | cons p ps => rfl
    · rw [splitC, if_neg hy, splitC, if_neg hy, ih]
      by_cases h : x = c
      · rw [if_pos h, if_pos h]
        cases hs : splitC c t with
        | nil => exact absurd hs hne
        | cons p ps => rfl
      · rw [if_neg h, if_neg h]
        cases hs : splitC c t with
        | nil => exact absurd hs hne
        | cons p ps =>
          cases ps with
          | nil => rfl
          | cons q r => rfl
theorem growLast_concat (x : UInt8) (p : List UInt8) : ∀ l, growLast x (l ++ [p]) = l ++ [p ++ [x]]
  | [] => rfl
  | [a] => rfl
  | a :: b :: r => by
    have := growLast_concat x p (b :: r)
    simp only [List.cons_append] at this ⊢
    rw [growLast, this]
theorem splitC_length (c : UInt8) : ∀ l, (splitC c l).length = l.count c + 1
  | [] => rfl
  | x :: t => by
    have ih := splitC_length c t
    have hne := splitC_ne c t
    unfold splitC
    by_cases h : x = c
    · rw [if_pos h, List.length_cons, ih, h, List.count_cons_self]
    · rw [if_neg h, List.count_cons_of_ne (by simpa using h)]
      cases hs : splitC c t with
      | nil => exact absurd hs hne
      | cons p ps => rw [hs] at ih; simpa using ih
/-- a text without the byte. -/
theorem splitC_none (c : UInt8) : ∀ l : List UInt8, c ∉ l → splitC c l = [l]
  | [], _ => rfl
  | x :: t, h => by
    have h1 : x ≠ c := fun e => h (by rw [e]; exact List.mem_cons_self ..)
    rw [splitC, if_neg h1, splitC_none c t (fun e => h (List.mem_cons_of_mem _ e))]
/-- the first part, the byte, and the rest. -/
theorem splitC_hit (c : UInt8) (r : List UInt8) : ∀ l : List UInt8, c ∉ l → splitC c (l ++ c :: r) = l :: splitC c r
  | [], _ => by rw [List.nil_append, splitC, if_pos rfl]
  | x :: t, h => by
    have h1 : x ≠ c := fun e => h (by rw [e]; exact List.mem_cons_self ..)
    rw [List.cons_append, splitC, if_neg h1, splitC_hit c r t (fun e => h (List.mem_cons_of_mem _ e))]
theorem index_none {l : List UInt8} {c : UInt8} (h : Lib.indexByte l c = -1) : c ∉ l := fun e => by
  obtain ⟨k, hk⟩ := List.mem_iff_getElem?.1 e
  exact Lib.indexByte_none h k hk
theorem index_hit {l : List UInt8} {c : UInt8} {o : Nat} (h : Lib.indexByte l c = o) : c ∉ l.take o ∧ l = l.take o ++ c :: l.drop (o + 1) := by
  obtain ⟨h1, h2⟩ := Lib.indexByte_some h
  refine ⟨fun e => ?_, ?_⟩
  · obtain ⟨k, hk⟩ := List.mem_iff_getElem?.1 e
    rw [List.getElem?_take] at hk
    split at hk
    · rename_i hlt
      exact h2 k hlt hk
    · cases hk
  · obtain ⟨hlt, he⟩ := List.getElem?_eq_some_iff.1 h1
    conv => lhs; rw [← List.take_append_drop o l, List.drop_eq_getElem_cons hlt, he]
/-- the library's split at one byte. -/
theorem splitK_one (c : UInt8) : ∀ (k : Nat) (l : List UInt8), l.count c = k → Lib.splitK [c] 0 k l = splitC c l
  | 0, l, h => by
    rw [Lib.splitK, splitC_none c l (List.count_eq_zero.1 h)]
  | k + 1, l, h => by
    rw [Lib.splitK, Lib.index_one]
    have hmem : c ∈ l := List.count_pos_iff.1 (by omega)
    split
    · rename_i hm
      exact absurd hmem (index_none (by simpa using hm))
    · rename_i hm
      have hge := Lib.indexByte_ge l c
      have hm' : Lib.indexByte l c ≠ -1 := by simpa using hm
      obtain ⟨o, ho⟩ : ∃ o : Nat, Lib.indexByte l c = o := ⟨(Lib.indexByte l c).toNat, by omega⟩
      obtain ⟨hn, he⟩ := index_hit ho
      rw [ho, Int.toNat_natCast, Nat.add_zero, List.length_singleton]
      have hc : (l.drop (o + 1)).count c = k := by
        rw [he, List.count_append, List.count_eq_zero.2 hn, List.count_cons_self] at h
        omega
      rw [splitK_one c k _ hc]
      conv => rhs; rw [he, splitC_hit c _ _ hn]
theorem split_one (c : UInt8) (l : List UInt8) : Lib.splitK [c] 0 (Lib.count l [c]) l = splitC c l := splitK_one c _ l (Lib.count_one c l).symm

/-- the lines of a text, each with its end. -/
def linesL (l : List UInt8) : List (List UInt8) := ((splitC 10 l).dropLast.map (· ++ [10])) ++ (if (splitC 10 l).getLast (splitC_ne 10 l) = [] then [] else [(splitC 10 l).getLast (splitC_ne 10 l)])
theorem linesL_nil : linesL [] = [] := by simp [linesL, splitC]
theorem linesL_none {l : List UInt8} (h : (10 : UInt8) ∉ l) (hl : l ≠ []) : linesL l = [l] := by
  unfold linesL
  simp only [splitC_none 10 l h, List.dropLast_singleton, List.map_nil, List.nil_append, List.getLast_singleton]
  rw [if_neg hl]
theorem linesL_hit {l r : List UInt8} (h : (10 : UInt8) ∉ l) : linesL (l ++ 10 :: r) = (l ++ [10]) :: linesL r := by
  unfold linesL
  have hne := splitC_ne 10 r
  simp only [splitC_hit 10 r l h]
  rw [List.dropLast_cons_of_ne_nil hne, List.map_cons, List.cons_append]
  simp only [List.getLast_cons hne]

/-- an integer of at most nine digits, without a sign and without leading zeros. -/
def valD (l : List UInt8) : Int := l.foldl (fun n c => 10 * n + ((c.toNat : Int) - 48)) 0
def isD (c : UInt8) : Bool := 48 ≤ c && c ≤ 57
def digOk (l : List UInt8) : Bool := l.length ≠ 0 && l.length ≤ 9 && (l.length = 1 || l[0]? ≠ some 48) && l.all isD

theorem splitC_free (c : UInt8) : ∀ (l p : List UInt8), p ∈ splitC c l → c ∉ p
  | [], p, h => by
    simp only [splitC, List.mem_singleton] at h
    rw [h]; simp
  | x :: t, p, h => by
    have ih := splitC_free c t
    rw [splitC] at h
    by_cases hx : x = c
    · rw [if_pos hx] at h
      rcases List.mem_cons.1 h with rfl | h
      · simp
      · exact ih p h
    · rw [if_neg hx] at h
      cases hs : splitC c t with
      | nil => exact absurd hs (splitC_ne c t)
      | cons q qs =>
        rw [hs] at h ih
        rcases List.mem_cons.1 h with rfl | h
        · intro e
          rcases List.mem_cons.1 e with e | e
          · exact hx e.symm
          · exact ih q (List.mem_cons_self ..) e
        · exact ih p (List.mem_cons_of_mem _ h)
/-- a line of a branch. -/
def brW (ws : List (List UInt8)) : Option (Int × Int) :=
  if ws.length = 3 ∧ ws[0]?.getD [] = [98, 114, 97, 110, 99, 104] ∧ digOk (ws[1]?.getD []) = true ∧ digOk (ws[2]?.getD []) = true then some (valD (ws[1]?.getD []), valD (ws[2]?.getD [])) else none
/-- a line with its end. -/
def lineP (l : List UInt8) : Option (Int × Int) := if l.getLast? = some 10 then brW (splitC 32 l.dropLast) else none
/-- the first line that is wrong. -/
def badAt (ls : List (List UInt8)) : Option Nat := ls.findIdx? (fun l => (lineP l).isNone)
def brsOf (ls : List (List UInt8)) : List (Int × Int) := ls.filterMap lineP
theorem badAt_some {ls : List (List UInt8)} {n : Nat} {l : List UInt8} (h : ls[n]? = some l) (hp : lineP l = none) (hb : ∀ j x, j < n → ls[j]? = some x → lineP x ≠ none) : badAt ls = some n := by
  unfold badAt
  rw [List.findIdx?_eq_some_iff_getElem]
  obtain ⟨hn, he⟩ := List.getElem?_eq_some_iff.1 h
  refine ⟨hn, by rw [he, hp]; rfl, fun j hj => ?_⟩
  have := hb j ls[j] hj (List.getElem?_eq_getElem (by omega))
  cases hl : lineP ls[j] with
  | none => exact absurd hl this
  | some _ => simp
theorem badAt_none {ls : List (List UInt8)} (h : ∀ x ∈ ls, lineP x ≠ none) : badAt ls = none := by
  unfold badAt
  rw [List.findIdx?_eq_none_iff]
  intro x hx
  cases hl : lineP x with
  | none => exact absurd hl (h x hx)
  | some _ => simp
end

section
set_option linter.unusedSimpArgs false
set_option linter.unusedVariables false
open Go.RowKit

theorem valD_snoc (l : List UInt8) (b : UInt8) : valD (l ++ [b]) = 10 * valD l + ((b.toNat : Int) - 48) := by
  simp [valD, List.foldl_append]
theorem isD_iff (b : UInt8) : isD b = true ↔ 48 ≤ b.toNat ∧ b.toNat ≤ 57 := by
  unfold isD
  rw [Bool.and_eq_true, decide_eq_true_eq, decide_eq_true_eq, UInt8.le_iff_toNat_le, UInt8.le_iff_toNat_le]
  rfl
theorem valD_bd : ∀ (k : Nat) (l : List UInt8), l.length = k → l.all isD = true → 0 ≤ valD l ∧ valD l < 10 ^ k
  | 0, l, h, _ => by
    obtain rfl := List.length_eq_zero_iff.1 h
    exact ⟨by decide, by decide⟩
  | k + 1, l, h, ha => by
    obtain ⟨l', b, rfl⟩ : ∃ l' b, l = l' ++ [b] := ⟨l.dropLast, l.getLast (by intro e; rw [e] at h; cases h), (List.dropLast_concat_getLast _).symm⟩
    rw [List.length_append, List.length_singleton] at h
    rw [List.all_append, Bool.and_eq_true] at ha
    have ih := valD_bd k l' (by omega) ha.1
    have hb := (isD_iff b).1 (by simpa using ha.2)
    rw [valD_snoc, Int.pow_succ]
    omega
theorem valD_9 {l : List UInt8} (h : l.length ≤ 9) (ha : l.all isD = true) : 0 ≤ valD l ∧ valD l ≤ 999999999 := by
  have h1 := valD_bd l.length l rfl ha
  have h2 : (10 : Int) ^ l.length ≤ 10 ^ 9 := by
    have : (10 : Nat) ^ l.length ≤ 10 ^ 9 := Nat.pow_le_pow_right (by decide) h
    exact_mod_cast this
  have h3 : (10 : Int) ^ 9 = 1000000000 := by decide
  omega
theorem take_snoc (l : List UInt8) (k : Nat) (hk : k < l.length) : l.take (k + 1) = l.take k ++ [l[k]?.getD 0] := by
  rw [List.take_add_one, List.getElem?_eq_getElem hk]; rfl
theorem data_len (s : ByteArray) : s.data.toList.length = s.size := by cases s; rfl
theorem idxS (T : TypeId) (hT : Tryz.prog.underlying T = some .string) (s : ByteArray) (k : Nat) (hk : k < s.size) (W : World) :
    Sem.run Tryz.prog (Instr.index T (.string s) (.int .i64 (k : Int))) W = .ok (.int .u8 ((s.data.toList[k]?.getD 0).toNat : Int)) W := by
  rw [run_index_string (h := hT), dif_pos ⟨by omega, by omega⟩]
  have hk' : k < s.data.size := hk
  have : s[(k : Int).toNat]'(by simpa using hk) = s.data.toList[k]?.getD 0 := by
    simp only [Int.toNat_natCast]
    rw [List.getElem?_eq_getElem (by simpa using hk')]
    rfl
  rw [this]
theorem digOk_false {l : List UInt8} (h : l.length = 0 ∨ 9 < l.length ∨ (l.length ≠ 1 ∧ l[0]?.getD 0 = 48) ∨ ∃ k, k < l.length ∧ isD (l[k]?.getD 0) = false) : digOk l = false := by
  unfold digOk
  rcases h with h | h | ⟨h1, h2⟩ | ⟨k, hk, h⟩
  · simp [h]
  · rw [decide_eq_false (show ¬ l.length ≤ 9 by omega)]; simp
  · rcases Nat.eq_zero_or_pos l.length with h0 | h0
    · simp [h0]
    · have : l[0]? = some 48 := by rw [List.getElem?_eq_getElem h0] at h2 ⊢; rw [← h2]; rfl
      simp [h1, this]
  · have : l.all isD = false := by
      rw [List.all_eq_false]
      exact ⟨l[k], List.getElem_mem hk, by rw [List.getElem?_eq_getElem hk] at h; simpa using h⟩
    rw [this]; simp
theorem digOk_true {l : List UInt8} (h0 : l.length ≠ 0) (h9 : l.length ≤ 9) (h1 : l.length = 1 ∨ l[0]?.getD 0 ≠ 48) (ha : l.all isD = true) : digOk l = true := by
  unfold digOk
  rw [ha]
  rcases h1 with h1 | h1
  · simp [h1]
  · have : l[0]? ≠ some 48 := fun e => h1 (by rw [e]; rfl)
    simp [h0, h9, this]
def digV (l : List UInt8) : Int := if digOk l = true then valD l else 0
theorem digV_false {l : List UInt8} (h : digOk l = false) : digV l = 0 := by unfold digV; rw [h]; rfl
theorem digV_true {l : List UInt8} (h : digOk l = true) : digV l = valD l := by unfold digV; rw [if_pos h]
end

section
set_option linter.unusedSimpArgs false
set_option linter.unusedVariables false
open Go.RowKit

theorem iter_below (w : World) (s : ByteArray) (k : Nat) : Below w.heap.size w (w.iter s k) := below_new _ _
theorem byteAt (s : ByteArray) (k : Nat) (hk : k < s.size) : s[k]'hk = s.data.toList[k]?.getD 0 := by
  have hk' : k < s.data.size := hk
  rw [List.getElem?_eq_getElem (by simpa using hk')]
  rfl
/-- what comes next of a text: an ASCII byte. -/
theorem next_lo (w : World) (s : ByteArray) (k : Nat) (hk : k < s.size) (h : (s.data.toList[k]?.getD 0).toNat < 128) (ty : TypeId) :
    Sem.run Tryz.prog (Instr.next (.pointer (some ⟨w.heap.size, 0, none⟩)) true ty) (w.iter s k) = .ok (.tuple #[.bool true, .int .i64 (k : Int), .int .i32 ((s.data.toList[k]?.getD 0).toNat : Int)]) (w.iter s (k + 1)) := by
  rw [run_next_ascii w s k ty hk (by rw [byteAt s k hk]; exact h), byteAt s k hk]
/-- something else. -/
theorem next_hi (w : World) (s : ByteArray) (k : Nat) (hk : k < s.size) (h : 128 ≤ (s.data.toList[k]?.getD 0).toNat) :
    ∃ (r : Int) (q : Nat), 57 < r ∧ ∀ ty, Sem.run Tryz.prog (Instr.next (.pointer (some ⟨w.heap.size, 0, none⟩)) true ty) (w.iter s k) = .ok (.tuple #[.bool true, .int .i64 (k : Int), .int .i32 r]) (w.iter s q) := by
  have hh := decode_high s k hk (by rw [byteAt s k hk]; exact h)
  exact ⟨((Utf8.decode s k).1 : Int), _, by omega, fun ty => run_next_any w s k ty hk⟩

end

section
set_option linter.unusedSimpArgs false
set_option linter.unusedVariables false
open Go.RowKit

abbrev strV (p : List UInt8) : Value := .string ⟨p.toArray⟩
/-- a row of texts of the call's own. -/
def OwnS (base : Nat) (W : World) (v : Value) (ps : List (List UInt8)) : Prop := W.ownsRow base 9 1 v ps.length (ps.map strV)
theorem OwnS.carry {base : Nat} {W W' : World} {v : Value} {ps : List (List UInt8)} (h : OwnS base W v ps) (hb : Below W.heap.size W W') : OwnS base W' v ps := own_below h hb
theorem OwnS.vals {base : Nat} {W : World} {v : Value} {ps : List (List UInt8)} (h : OwnS base W v ps) : Vals W v (ps.map strV) :=
  Vals.of_own (us := ps.map strV) (v := v) (w := W) (base := base) (e := 9) (by rw [List.length_map]; exact h)
theorem baEq {a b : ByteArray} (h : a.data.toList = b.data.toList) : a = b := by
  obtain ⟨⟨x⟩⟩ := a
  obtain ⟨⟨y⟩⟩ := b
  simp only at h
  rw [h]
theorem data_append (a b : ByteArray) : (a ++ b).data.toList = a.data.toList ++ b.data.toList := by
  rw [ByteArray.data_append, Array.toList_append]
theorem pieceAt (s : ByteArray) (k : Nat) (hk : k < s.size) : (s.extract k (k + 1)).data.toList = [s.data.toList[k]?.getD 0] := by
  have hk' : k < s.data.toList.length := by rw [data_len]; exact hk
  rw [ByteArray.data_extract, Array.toList_extract, List.getElem?_eq_getElem hk', List.extract_eq_take_drop, show k + 1 - k = 1 by omega, List.drop_eq_getElem_cons hk']
  rfl
theorem growAt (s : ByteArray) (k : Nat) (hk : k < s.size) (p : List UInt8) : (⟨p.toArray⟩ : ByteArray) ++ s.extract k (k + 1) = ⟨(p ++ [s.data.toList[k]?.getD 0]).toArray⟩ := by
  apply baEq
  rw [data_append, pieceAt s k hk]
theorem splitC_len (c : UInt8) : ∀ (l p : List UInt8), p ∈ splitC c l → p.length ≤ l.length
  | [], p, h => by
    simp only [splitC, List.mem_singleton] at h
    rw [h]; simp
  | x :: t, p, h => by
    have ih := splitC_len c t
    rw [splitC] at h
    by_cases hx : x = c
    · rw [if_pos hx] at h
      rcases List.mem_cons.1 h with rfl | h
      · simp
      · have := ih p h
        rw [List.length_cons]; omega
    · rw [if_neg hx] at h
      cases hs : splitC c t with
      | nil => exact absurd hs (splitC_ne c t)
      | cons q qs =>
        rw [hs] at h ih
        rcases List.mem_cons.1 h with rfl | h
        · have := ih q (List.mem_cons_self ..)
          rw [List.length_cons, List.length_cons]; omega
        · have := ih p (List.mem_cons_of_mem _ h)
          rw [List.length_cons]; omega
theorem catS2 (T : TypeId) (x y : ByteArray) (W : World) (h : x.size + y.size ≤ 1000000000) : Sem.run Tryz.prog (binOp .add T (.string x) (.string y)) W = .ok (.string (x ++ y)) W := by
  have h2 : ¬ (9223372036854775807 < x.size + y.size) := by omega
  go_simp
theorem mk_size (p : List UInt8) : (⟨p.toArray⟩ : ByteArray).size = p.length := by simp [ByteArray.size]
theorem OwnS.set {base g cp : Nat} {W : World} {q : List (List UInt8)} {p : List UInt8} (h : OwnS base W (.slice (some ⟨g, 0, none⟩) (q.length + 1) cp) (q ++ [p])) (r : List UInt8) :
    OwnS base (W.setCell ⟨g, q.length, none⟩ (strV r)) (.slice (some ⟨g, 0, none⟩) (q.length + 1) cp) (q ++ [r]) := by
  unfold OwnS at h ⊢
  have h1 : (q ++ [p]).length = q.length + 1 := by simp
  have h2 : (q ++ [r]).length = q.length + 1 := by simp
  rw [h1] at h
  rw [h2]
  have := (h.stored q.length (strV r)).1
  rw [List.map_append] at this ⊢
  simpa using this
theorem concat_of_ne {α : Type} {l : List α} (h : l ≠ []) : ∃ q p, l = q ++ [p] := ⟨l.dropLast, l.getLast h, (List.dropLast_concat_getLast h).symm⟩

end

section
set_option linter.unusedSimpArgs false
set_option linter.unusedVariables false
open Go.RowKit

/-- what a number taken tells: whether the word is one. -/
def okW (ws : List (List UInt8)) : Bool := match ws with
  | [] => false
  | p :: _ => digOk p

/-- blocks outside S, and all that is no row of cells, stand. -/
structure Keep (S : Nat → Prop) (W W' : World) : Prop where
  os : W'.os = W.os
  tape : W'.tape = W.tape
  output : W'.output = W.output
  size : W.heap.size ≤ W'.heap.size
  same : ∀ (k : Nat) (o : Obj), W.heap[k]? = some o → (¬ S k ∨ o.isCells = false) → W'.heap[k]? = some o
theorem Keep.of_below {S : Nat → Prop} {W W' : World} (h : Below W.heap.size W W') : Keep S W W' := ⟨h.os, h.tape, h.output, h.size, fun k o hk _ => (h.block k (Array.getElem?_eq_some_iff.1 hk).1).trans hk⟩
theorem Keep.refl (S : Nat → Prop) (W : World) : Keep S W W := Keep.of_below (Below.refl _ _)
theorem Keep.trans {S : Nat → Prop} {W W1 W2 : World} (h : Keep S W W1) (k : Keep S W1 W2) : Keep S W W2 :=
  ⟨k.os.trans h.os, k.tape.trans h.tape, k.output.trans h.output, Nat.le_trans h.size k.size, fun j o hj hn => k.same j o (h.same j o hj hn) hn⟩
theorem Keep.mono {S S' : Nat → Prop} {W W1 : World} (h : Keep S W W1) (hs : ∀ k, S k → S' k) : Keep S' W W1 :=
  ⟨h.os, h.tape, h.output, h.size, fun j o hj hn => h.same j o hj (hn.imp (fun h e => h (hs _ e)) id)⟩
theorem Keep.setCell {S : Nat → Prop} {W W1 : World} (h : Keep S W W1) {B o : Nat} {T : TypeId} {vs : List Value} (hB : Blk W1 B T vs) (hS : S B) (x : Value) : Keep S W (W1.setCell ⟨B, o, none⟩ x) :=
  ⟨h.os, h.tape, h.output, by simpa using h.size, fun j ob hj hn => by
    have hj1 := h.same j ob hj hn
    refine (Below.heap_setCell _ _ _ _ (fun e => ?_)).trans hj1
    obtain rfl : j = B := by simpa using e
    rcases hn with hn | hn
    · exact hn hS
    · have := hB.symm.trans hj1
      cases this
      cases hn⟩
theorem Keep.grown {S : Nat → Prop} {W W1 W2 : World} (h : Keep S W W1) {row : Option Nat} (hg : W1.grownBy W2 row) (hr : ∀ r, row = some r → S r ∧ ∀ o, W1.heap[r]? = some o → o.isCells = true) : Keep S W W2 :=
  h.trans ⟨hg.1, hg.2, hg.3, hg.size, fun j o hj hn => by
    refine (hg.block j (Array.getElem?_eq_some_iff.1 hj).1 (fun e => ?_)).trans hj
    obtain ⟨h1, h2⟩ := hr j e.symm
    rcases hn with hn | hn
    · exact hn h1
    · have := h2 o hj
      rw [hn] at this; cases this⟩
theorem Keep.below {S : Nat → Prop} {W W1 : World} (h : Keep S W W1) {base : Nat} (hb : ∀ k, k < base → ¬ S k) (hs : base ≤ W.heap.size) : Below base W W1 := ⟨h.os, h.tape, h.output, h.size, fun k hk => by
  have hlt : k < W.heap.size := by omega
  have he : W.heap[k]? = some W.heap[k] := Array.getElem?_eq_getElem hlt
  rw [he]
  exact h.same k _ he (.inl (hb k hk))⟩
theorem Keep.from {S : Nat → Prop} {W W1 : World} (h : Keep S W W1) (B : Nat) : KeepsFrom B W W1 := ⟨h.size, fun k o _ hk ho => h.same k o hk (.inr ho)⟩
theorem Keep.blk {S : Nat → Prop} {W W1 : World} (h : Keep S W W1) {F : Nat} {T : TypeId} {vs : List Value} (hF : Blk W F T vs) (hne : ¬ S F) : Blk W1 F T vs := h.same F _ hF (.inl hne)
theorem Keep.own {S : Nat → Prop} {W W1 : World} (h : Keep S W W1) {base e size n : Nat} {v : Value} {xs : List Value} (ho : W.ownsRow base e size v n xs) (hne : ∀ g, v.ownBlock = some g → ¬ S g) : W1.ownsRow base e size v n xs := by
  obtain ⟨h1, h2⟩ := ho
  refine ⟨h1, ?_⟩
  rcases h2 with h2 | ⟨g, cap, cur, hv, hg, hh, r⟩
  · exact Or.inl h2
  · exact Or.inr ⟨g, cap, cur, hv, hg, h.same g _ hh (.inl (hne g (by rw [hv]; rfl))), r⟩
theorem Vals.set {W : World} {u : Value} {us : List Value} (h : Vals W u us) {B o : Nat} {x : Value} (hne : ∀ b off c, u = .slice (some ⟨b, off, none⟩) us.length c → b ≠ B) : Vals (W.setCell ⟨B, o, none⟩ x) u us := by
  obtain ⟨a, cp, rfl, hc, hv⟩ := h
  refine ⟨a, cp, rfl, hc, fun h0 => ?_⟩
  obtain ⟨b, off, rfl, hcs⟩ := hv h0
  refine ⟨b, off, rfl, fun j y hj => ?_⟩
  rw [World.cell?_setCell_other _ _ _ _ (fun e => hne b off cp rfl (congrArg Addr.block e).symm)]
  exact hcs j y hj
theorem Vals.tail {W : World} {b off cp n : Nat} {x : Value} {us : List Value} (h : Vals W (.slice (some ⟨b, off, none⟩) (n + 1) cp) (x :: us)) (hn : us.length = n) : Vals W (.slice (some ⟨b, off + 1, none⟩) n (cp - 1)) us := by
  obtain ⟨a, c, he, hc, hv⟩ := h
  have hc' : n + 1 ≤ cp := by
    simp only [Value.slice.injEq] at he
    obtain ⟨_, h1, h2⟩ := he
    rw [h1, h2]; exact hc
  obtain ⟨b', off', rfl, hcs⟩ := hv (by simp)
  simp only [Value.slice.injEq, Option.some.injEq, Addr.mk.injEq, and_true] at he
  obtain ⟨⟨rfl, rfl⟩, _, rfl⟩ := he
  refine ⟨some ⟨b, off + 1, none⟩, cp - 1, by rw [hn], by omega, fun _ => ⟨b, off + 1, rfl, fun j y hj => ?_⟩⟩
  rw [show off + 1 + j = off + (j + 1) by omega]
  exact hcs (j + 1) y hj
end

end Go.Proofs.YtfeajpkjjlddlaaGreatDoor

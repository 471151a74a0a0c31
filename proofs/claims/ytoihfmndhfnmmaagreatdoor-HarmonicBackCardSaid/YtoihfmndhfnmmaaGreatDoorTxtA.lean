/- Plain facts: a text cut at a byte, lines, the digits of an integer. No program in sight. -/
import Derived.Lib.SplitLaws
import Derived.Lib.IndexBytes
import Derived.Test.YtoihfmndhfnmmaaGreatDoorHarC
import Derived.Laws.RangeAny
import Derived.Test.YtoihfmndhfnmmaaGreatDoorHpI
import Derived.Laws.DeepStrings4
import Derived.Test.YtoihfmndhfnmmaaGreatDoorHpJ
namespace Go.Proofs.YtoihfmndhfnmmaaGreatDoor
section
set_option linter.unusedSimpArgs false
set_option linter.unusedVariables false

/-- the parts of a text between the places of a byte. -/
def splitC (c : UInt8) : List UInt8 → List (List UInt8)
  | [] => [[]]
  | x :: t => if x = c then [] :: splitC c t else match splitC c t with
    | [] => [[x]]
    | p :: ps => (x :: p) :: ps
theorem splitC_ne (c : UInt8) : ∀ l, splitC c l ≠ []
  | [] => by simp [splitC]
  | x :: t => by
    unfold splitC
    split
    · simp
    · split <;> simp
/-- the last part grows. -/
def growLast (x : UInt8) : List (List UInt8) → List (List UInt8)
  | [] => [[x]]
  | [p] => [p ++ [x]]
  | p :: q :: r => p :: growLast x (q :: r)
theorem splitC_snoc (c x : UInt8) : ∀ l, splitC c (l ++ [x]) = if x = c then splitC c l ++ [[]] else growLast x (splitC c l)
  | [] => by
    by_cases h : x = c <;> simp [splitC, h, growLast]
  | y :: t => by
    have ih := splitC_snoc c x t
    have hne := splitC_ne c t
    rw [List.cons_append]
    by_cases hy : y = c
    · rw [splitC, if_pos hy, splitC, if_pos hy, ih]
      by_cases h : x = c
      · simp [h]
      · rw [if_neg h, if_neg h]
        cases hs : splitC c t with
        | nil => exact absurd hs hne
        | cons p ps => rfl
    · rw [splitC, if_neg hy, splitC, if_neg hy, ih]
      by_cases h : x = c
      · rw [if_pos h, if_pos h]
        cases hs : splitC c t with
        | nil => exact absurd hs hne
        | cons p ps => rfl
      · rw [if_neg h, if_neg h]
        cases hs : splitC c t with
        | nil => exact absurd hs hne
        | cons p ps =>
          cases ps with
          | nil => rfl
          | cons q r => rfl
theorem growLast_concat (x : UInt8) (p : List UInt8) : ∀ l, growLast x (l ++ [p]) = l ++ [p ++ [x]]
  | [] => rfl
  | [a] => rfl
  | a :: b :: r => by
    have := growLast_concat x p (b :: r)
    simp only [List.cons_append] at this ⊢
    rw [growLast, this]
theorem splitC_length (c : UInt8) : ∀ l, (splitC c l).length = l.count c + 1
  | [] => rfl
  | x :: t => by
    have ih := splitC_length c t
    have hne := splitC_ne c t
    unfold splitC
    by_cases h : x = c
    · rw [if_pos h, List.length_cons, ih, h, List.count_cons_self]
    · rw [if_neg h, List.count_cons_of_ne (by simpa using h)]
      cases hs : splitC c t with
      | nil => exact absurd hs hne
      | cons p ps => rw [hs] at ih; simpa using ih
/-- a text without the byte. -/
theorem splitC_none (c : UInt8) : ∀ l : List UInt8, c ∉ l → splitC c l = [l]
  | [], _ => rfl
  | x :: t, h => by
    have h1 : x ≠ c := fun e => h (by rw [e]; exact List.mem_cons_self ..)
    rw [splitC, if_neg h1, splitC_none c t (fun e => h (List.mem_cons_of_mem _ e))]
/-- the first part, the byte, and the rest. -/
theorem splitC_hit (c : UInt8) (r : List UInt8) : ∀ l : List UInt8, c ∉ l → splitC c (l ++ c :: r) = l :: splitC c r
  | [], _ => by rw [List.nil_append, splitC, if_pos rfl]
  | x :: t, h => by
    have h1 : x ≠ c := fun e => h (by rw [e]; exact List.mem_cons_self ..)
    rw [List.cons_append, splitC, if_neg h1, splitC_hit c r t (fun e => h (List.mem_cons_of_mem _ e))]
theorem index_none {l : List UInt8} {c : UInt8} (h : Lib.indexByte l c = -1) : c ∉ l := fun e => by
  obtain ⟨k, hk⟩ := List.mem_iff_getElem?.1 e
  exact Lib.indexByte_none h k hk
theorem index_hit {l : List UInt8} {c : UInt8} {o : Nat} (h : Lib.indexByte l c = o) : c ∉ l.take o ∧ l = l.take o ++ c :: l.drop (o + 1) := by
  obtain ⟨h1, h2⟩ := Lib.indexByte_some h
  refine ⟨fun e => ?_, ?_⟩
  · obtain ⟨k, hk⟩ := List.mem_iff_getElem?.1 e
    rw [List.getElem?_take] at hk
    split at hk
    · rename_i hlt
      exact h2 k hlt hk
    · cases hk
  · obtain ⟨hlt, he⟩ := List.getElem?_eq_some_iff.1 h1
    conv => lhs; rw [← List.take_append_drop o l, List.drop_eq_getElem_cons hlt, he]
/-- the library's split at one byte. -/
theorem splitK_one (c : UInt8) : ∀ (k : Nat) (l : List UInt8), l.count c = k → Lib.splitK [c] 0 k l = splitC c l
  | 0, l, h => by
    rw [Lib.splitK, splitC_none c l (List.count_eq_zero.1 h)]
  | k + 1, l, h => by
    rw [Lib.splitK, Lib.index_one]
    have hmem : c ∈ l := List.count_pos_iff.1 (by omega)
    split
    · rename_i hm
      exact absurd hmem (index_none (by simpa using hm))
    · rename_i hm
      have hge := Lib.indexByte_ge l c
      have hm' : Lib.indexByte l c ≠ -1 := by simpa using hm
      obtain ⟨o, ho⟩ : ∃ o : Nat, Lib.indexByte l c = o := ⟨(Lib.indexByte l c).toNat, by omega⟩
      obtain ⟨hn, he⟩ := index_hit ho
      rw [ho, Int.toNat_natCast, Nat.add_zero, List.length_singleton]
      have hc : (l.drop (o + 1)).count c = k := by
        rw [he, List.count_append, List.count_eq_zero.2 hn, List.count_cons_self] at h
        omega
      rw [splitK_one c k _ hc]
      conv => rhs; rw [he, splitC_hit c _ _ hn]
theorem split_one (c : UInt8) (l : List UInt8) : Lib.splitK [c] 0 (Lib.count l [c]) l = splitC c l := splitK_one c _ l (Lib.count_one c l).symm

/-- the lines of a text, each with its end. -/
def linesL (l : List UInt8) : List (List UInt8) := ((splitC 10 l).dropLast.map (· ++ [10])) ++ (if (splitC 10 l).getLast (splitC_ne 10 l) = [] then [] else [(splitC 10 l).getLast (splitC_ne 10 l)])
theorem linesL_nil : linesL [] = [] := by simp [linesL, splitC]
theorem linesL_none {l : List UInt8} (h : (10 : UInt8) ∉ l) (hl : l ≠ []) : linesL l = [l] := by
  unfold linesL
  simp only [splitC_none 10 l h, List.dropLast_singleton, List.map_nil, List.nil_append, List.getLast_singleton]
  rw [if_neg hl]
theorem linesL_hit {l r : List UInt8} (h : (10 : UInt8) ∉ l) : linesL (l ++ 10 :: r) = (l ++ [10]) :: linesL r := by
  unfold linesL
  have hne := splitC_ne 10 r
  simp only [splitC_hit 10 r l h]
  rw [List.dropLast_cons_of_ne_nil hne, List.map_cons, List.cons_append]
  simp only [List.getLast_cons hne]

/-- an integer of at most nine digits, without a sign and without leading zeros. -/
def valD (l : List UInt8) : Int := l.foldl (fun n c => 10 * n + ((c.toNat : Int) - 48)) 0
def isD (c : UInt8) : Bool := 48 ≤ c && c ≤ 57
def digOk (l : List UInt8) : Bool := l.length ≠ 0 && l.length ≤ 9 && (l.length = 1 || l[0]? ≠ some 48) && l.all isD

theorem splitC_free (c : UInt8) : ∀ (l p : List UInt8), p ∈ splitC c l → c ∉ p
  | [], p, h => by
    simp only [splitC, List.mem_singleton] at h
    rw [h]; simp
  | x :: t, p, h => by
    have ih := splitC_free c t
    rw [splitC] at h
    by_cases hx : x = c
    · rw [if_pos hx] at h
      rcases List.mem_cons.1 h with rfl | h
      · simp
      · exact ih p h
    · rw [if_neg hx] at h
      cases hs : splitC c t with
      | nil => exact absurd hs (splitC_ne c t)
      | cons q qs =>
        rw [hs] at h ih
        rcases List.mem_cons.1 h with rfl | h
        · intro e
          rcases List.mem_cons.1 e with e | e
          · exact hx e.symm
          · exact ih q (List.mem_cons_self ..) e
        · exact ih p (List.mem_cons_of_mem _ h)
/-- a line of a branch. -/
def brW (ws : List (List UInt8)) : Option (Int × Int) :=
  if ws.length = 3 ∧ ws[0]?.getD [] = [98, 114, 97, 110, 99, 104] ∧ digOk (ws[1]?.getD []) = true ∧ digOk (ws[2]?.getD []) = true then some (valD (ws[1]?.getD []), valD (ws[2]?.getD [])) else none
/-- a line with its end. -/
def lineP (l : List UInt8) : Option (Int × Int) := if l.getLast? = some 10 then brW (splitC 32 l.dropLast) else none
/-- the first line that is wrong. -/
def badAt (ls : List (List UInt8)) : Option Nat := ls.findIdx? (fun l => (lineP l).isNone)
def brsOf (ls : List (List UInt8)) : List (Int × Int) := ls.filterMap lineP
theorem badAt_some {ls : List (List UInt8)} {n : Nat} {l : List UInt8} (h : ls[n]? = some l) (hp : lineP l = none) (hb : ∀ j x, j < n → ls[j]? = some x → lineP x ≠ none) : badAt ls = some n := by
  unfold badAt
  rw [List.findIdx?_eq_some_iff_getElem]
  obtain ⟨hn, he⟩ := List.getElem?_eq_some_iff.1 h
  refine ⟨hn, by rw [he, hp]; rfl, fun j hj => ?_⟩
  have := hb j ls[j] hj (List.getElem?_eq_getElem (by omega))
  cases hl : lineP ls[j] with
  | none => exact absurd hl this
  | some _ => simp
theorem badAt_none {ls : List (List UInt8)} (h : ∀ x ∈ ls, lineP x ≠ none) : badAt ls = none := by
  unfold badAt
  rw [List.findIdx?_eq_none_iff]
  intro x hx
  cases hl : lineP x with
  | none => exact absurd hl (h x hx)
  | some _ => simp
end

section
set_option linter.unusedSimpArgs false
set_option linter.unusedVariables false
open Go.RowKit

theorem valD_snoc (l : List UInt8) (b : UInt8) : valD (l ++ [b]) = 10 * valD l + ((b.toNat : Int) - 48) := by
  simp [valD, List.foldl_append]
theorem isD_iff (b : UInt8) : isD b = true ↔ 48 ≤ b.toNat ∧ b.toNat ≤ 57 := by
  unfold isD
  rw [Bool.and_eq_true, decide_eq_true_eq, decide_eq_true_eq, UInt8.le_iff_toNat_le, UInt8.le_iff_toNat_le]
  rfl
theorem valD_bd : ∀ (k : Nat) (l : List UInt8), l.length = k → l.all isD = true → 0 ≤ valD l ∧ valD l < 10 ^ k
  | 0, l, h, _ => by
    obtain rfl := List.length_eq_zero_iff.1 h
    exact ⟨by decide, by decide⟩
  | k + 1, l, h, ha => by
    obtain ⟨l', b, rfl⟩ : ∃ l' b, l = l' ++ [b] := ⟨l.dropLast, l.getLast (by intro e; rw [e] at h; cases h), (List.dropLast_concat_getLast _).symm⟩
    rw [List.length_append, List.length_singleton] at h
    rw [List.all_append, Bool.and_eq_true] at ha
    have ih := valD_bd k l' (by omega) ha.1
    have hb := (isD_iff b).1 (by simpa using ha.2)
    rw [valD_snoc, Int.pow_succ]
    omega
theorem valD_9 {l : List UInt8} (h : l.length ≤ 9) (ha : l.all isD = true) : 0 ≤ valD l ∧ valD l ≤ 999999999 := by
  have h1 := valD_bd l.length l rfl ha
  have h2 : (10 : Int) ^ l.length ≤ 10 ^ 9 := by
    have : (10 : Nat) ^ l.length ≤ 10 ^ 9 := Nat.pow_le_pow_right (by decide) h
    exact_mod_cast this
  have h3 : (10 : Int) ^ 9 = 1000000000 := by decide
  omega
theorem take_snoc (l : List UInt8) (k : Nat) (hk : k < l.length) : l.take (k + 1) = l.take k ++ [l[k]?.getD 0] := by
  rw [List.take_add_one, List.getElem?_eq_getElem hk]; rfl
theorem data_len (s : ByteArray) : s.data.toList.length = s.size := by cases s; rfl
theorem idxS (T : TypeId) (hT : Tryz.prog.underlying T = some .string) (s : ByteArray) (k : Nat) (hk : k < s.size) (W : World) :
    Sem.run Tryz.prog (Instr.index T (.string s) (.int .i64 (k : Int))) W = .ok (.int .u8 ((s.data.toList[k]?.getD 0).toNat : Int)) W := by
  rw [run_index_string (h := hT), dif_pos ⟨by omega, by omega⟩]
  have hk' : k < s.data.size := hk
  have : s[(k : Int).toNat]'(by simpa using hk) = s.data.toList[k]?.getD 0 := by
    simp only [Int.toNat_natCast]
    rw [List.getElem?_eq_getElem (by simpa using hk')]
    rfl
  rw [this]
theorem isDigit_any (c : Int) (w : World) : Calls Tryz.prog 144 #[.int .u8 c] w fun e w' => e = .returned (.bool (decide (48 ≤ c ∧ c ≤ 57))) ∧ w = w' := by
  by_cases h1 : 48 ≤ c
  · by_cases h2 : c ≤ 57
    · rw [show decide (48 ≤ c ∧ c ≤ 57) = true from decide_eq_true ⟨h1, h2⟩]
      go_enter Tryz.func144, Tryz.ntmps144
      go_wp2
      go_ret
      exact ⟨rfl, rfl⟩
    · rw [show decide (48 ≤ c ∧ c ≤ 57) = false from decide_eq_false (fun h => h2 h.2)]
      have h3 : 57 < c := by omega
      go_enter Tryz.func144, Tryz.ntmps144
      go_wp2
      go_ret
      exact ⟨rfl, rfl⟩
  · rw [show decide (48 ≤ c ∧ c ≤ 57) = false from decide_eq_false (fun h => h1 h.1)]
    have h3 : c < 48 := by omega
    go_enter Tryz.func144, Tryz.ntmps144
    go_wp2
    go_ret
    exact ⟨rfl, rfl⟩
-- MARK
theorem digOk_false {l : List UInt8} (h : l.length = 0 ∨ 9 < l.length ∨ (l.length ≠ 1 ∧ l[0]?.getD 0 = 48) ∨ ∃ k, k < l.length ∧ isD (l[k]?.getD 0) = false) : digOk l = false := by
  unfold digOk
  rcases h with h | h | ⟨h1, h2⟩ | ⟨k, hk, h⟩
  · simp [h]
  · rw [decide_eq_false (show ¬ l.length ≤ 9 by omega)]; simp
  · rcases Nat.eq_zero_or_pos l.length with h0 | h0
    · simp [h0]
    · have : l[0]? = some 48 := by rw [List.getElem?_eq_getElem h0] at h2 ⊢; rw [← h2]; rfl
      simp [h1, this]
  · have : l.all isD = false := by
      rw [List.all_eq_false]
      exact ⟨l[k], List.getElem_mem hk, by rw [List.getElem?_eq_getElem hk] at h; simpa using h⟩
    rw [this]; simp
theorem digOk_true {l : List UInt8} (h0 : l.length ≠ 0) (h9 : l.length ≤ 9) (h1 : l.length = 1 ∨ l[0]?.getD 0 ≠ 48) (ha : l.all isD = true) : digOk l = true := by
  unfold digOk
  rw [ha]
  rcases h1 with h1 | h1
  · simp [h1]
  · have : l[0]? ≠ some 48 := fun e => h1 (by rw [e]; rfl)
    simp [h0, h9, this]
def digV (l : List UInt8) : Int := if digOk l = true then valD l else 0
theorem digV_false {l : List UInt8} (h : digOk l = false) : digV l = 0 := by unfold digV; rw [h]; rfl
theorem digV_true {l : List UInt8} (h : digOk l = true) : digV l = valD l := by unfold digV; rw [if_pos h]
set_option maxRecDepth 100000 in
set_option maxHeartbeats 2000000 in
theorem Digits_any (s : ByteArray) (w : World) (hs : s.size ≤ 1000000) :
    Calls Tryz.prog 89 #[.string s] w fun e w' => e = .returned (.tuple #[.int .i64 (digV s.data.toList), .bool (digOk s.data.toList)]) ∧ w = w' := by
  have HL := Lib.hid (data_len s)
  obtain ⟨L, hL⟩ : ∃ L, L = s.data.toList := ⟨_, rfl⟩
  have hix := fun (k : Nat) (hk : k < s.size) W => idxS 9 Tryz.underlying9 s k hk W
  rw [← hL] at HL hix ⊢
  have HIX := Lib.hid hix
  clear hL hix
  obtain ⟨n, hn⟩ : ∃ n, n = s.size := ⟨_, rfl⟩
  have hn' : s.size = n := hn.symm
  rw [hn'] at HL HIX hs
  clear hn
  by_cases h0 : n = 0
  · subst h0
    have HR := Lib.hid (digOk_false (l := L) (.inl HL.out))
    go_enter Tryz.func89, Tryz.ntmps89
    go_wp2
    go_ret2
    rw [digV_false HR.out, HR.out]
    exact ⟨rfl, rfl⟩
  by_cases h9 : 9 < n
  · have HR := Lib.hid (digOk_false (l := L) (.inr (.inl (by rw [HL.out]; exact h9))))
    have d0 : (n : Int) ≠ 0 := by omega
    have d1 : 9 < (n : Int) := by omega
    go_enter Tryz.func89, Tryz.ntmps89
    go_wp2
    go_ret2
    rw [digV_false HR.out, HR.out]
    exact ⟨rfl, rfl⟩
  by_cases h1 : n = 1
  · have d0 : (n : Int) ≠ 0 := by omega
    have d1 : ¬ 9 < (n : Int) := by omega
    have d2 : ¬ 1 < (n : Int) := by omega
    have HO := Lib.hid (show L.length = 1 ∨ L[0]?.getD 0 ≠ 48 from .inl (by rw [HL.out]; exact h1))
    have H1 := Lib.hid h1
    clear h1
    go_enter Tryz.func89, Tryz.ntmps89
    go_wp2
    go_loop [4, 5] (fun v i => ∃ k : Nat, k ≤ n ∧ i = .int .i64 k ∧ v = .int .i64 (valD (L.take k)) ∧ (L.take k).all isD = true) (fun _ i => n - (intOf i).toNat)
    case atStart => exact ⟨0, by omega, rfl, rfl, rfl⟩
    case round =>
      obtain ⟨k, hk, rfl, rfl, ha⟩ := hrel
      have HA := Lib.hid ha
      clear ha
      by_cases hlt : k < n
      · have e1 := HIX.out k hlt
        have HT := Lib.hid (take_snoc L k (by rw [HL.out]; exact hlt))
        have HB := Lib.hid (valD_9 (l := L.take k) (by rw [List.length_take, HL.out]; omega) HA.out)
        generalize L[k]?.getD 0 = b at e1 HT
        have HC := Lib.hid (isD_iff b)
        have HZ := Lib.hid (show isD b = false → ∃ k, k < L.length ∧ isD (L[k]?.getD 0) = false from fun h => ⟨k, by rw [HL.out]; exact hlt, by
          have h2 := congrArg List.getLast? HT.out
          rw [List.getLast?_concat, List.getLast?_take] at h2
          rw [if_neg (by omega), show k + 1 - 1 = k by omega, List.getElem?_eq_getElem (by rw [HL.out]; exact hlt)] at h2
          rw [List.getElem?_eq_getElem (by rw [HL.out]; exact hlt)]
          simp at h2
          simp [h2, h]⟩)
        have HV := Lib.hid (valD_snoc (L.take k) b)
        obtain ⟨v, hv⟩ : ∃ v, v = valD (L.take k) := ⟨_, rfl⟩
        rw [← hv] at HB HV ⊢
        clear hv
        have hb2 : 0 ≤ (b.toNat : Int) := by omega
        by_cases hd : 48 ≤ (b.toNat : Int) ∧ (b.toNat : Int) ≤ 57
        · have hdd : decide (48 ≤ (b.toNat : Int) ∧ (b.toNat : Int) ≤ 57) = true := decide_eq_true hd
          have v0 : IntKind.i64.wrap (10 * v) = 10 * v := IntWalk.i64_in _ (by have := HB.out; omega)
          have hbd : isD b = true := HC.out.2 (by omega)
          have HBD := Lib.hid hbd
          obtain ⟨c, hc⟩ : ∃ c : Int, c = (b.toNat : Int) := ⟨_, rfl⟩
          rw [← hc] at e1 hd hdd hb2 HV
          clear hc hbd
          have v1 : IntKind.u8.wrap (c - 48) = c - 48 := IntWalk.u8_in _ (by omega)
          have v2 : IntKind.i64.wrap (c - 48) = c - 48 := IntWalk.i64_in _ (by omega)
          have v3 : IntKind.i64.wrap (10 * v + (c - 48)) = 10 * v + (c - 48) := IntWalk.i64_in _ (by have := HB.out; omega)
          have HD := Lib.hid hd
          clear hd
          go_wp2_with (go_at_call 144; refine (isDigit_any _ _).mono ?_; rintro e w' ⟨rfl, rfl⟩)
          go_round
          case rel => exact ⟨k + 1, by omega, by go_num, by rw [HT.out, HV.out], by rw [HT.out, List.all_append, HA.out]; simp [HBD.out]⟩
          case measure => simp [intOf]; omega
        · have hdd : decide (48 ≤ (b.toNat : Int) ∧ (b.toNat : Int) ≤ 57) = false := decide_eq_false hd
          have HR := Lib.hid (digOk_false (.inr (.inr (.inr (HZ.out (Bool.eq_false_iff.2 fun h => hd (by have := HC.out.1 h; omega)))))))
          clear hd
          go_wp2_with (go_at_call 144; refine (isDigit_any _ _).mono ?_; rintro e w' ⟨rfl, rfl⟩)
          go_ret2
          rw [digV_false HR.out, HR.out]
          exact ⟨rfl, rfl⟩
      · obtain rfl : k = n := by omega
        have hta : L.take k = L := List.take_of_length_le (by rw [HL.out]; omega)
        rw [hta] at HA ⊢
        have HR := Lib.hid (digOk_true (l := L) (by rw [HL.out]; omega) (by rw [HL.out]; omega) HO.out HA.out)
        clear hta
        go_wp2
        go_ret2
        rw [digV_true HR.out, HR.out]
        exact ⟨rfl, rfl⟩
  have e0 := HIX.out 0 (by omega)
  have d0 : (n : Int) ≠ 0 := by omega
  have d1 : ¬ 9 < (n : Int) := by omega
  have d2 : 1 < (n : Int) := by omega
  by_cases hc : L[0]?.getD 0 = 48
  · have HR := Lib.hid (digOk_false (l := L) (.inr (.inr (.inl ⟨by rw [HL.out]; exact h1, hc⟩))))
    rw [hc] at e0
    have e0' : ∀ W, Sem.run Tryz.prog (Instr.index 9 (.string s) (.int .i64 0)) W = .ok (.int .u8 48) W := e0
    clear e0 hc
    go_enter Tryz.func89, Tryz.ntmps89
    go_wp2
    go_ret2
    rw [digV_false HR.out, HR.out]
    exact ⟨rfl, rfl⟩
  · have HO := Lib.hid (show L.length = 1 ∨ L[0]?.getD 0 ≠ 48 from .inr hc)
    have d3 : ((L[0]?.getD 0).toNat : Int) ≠ 48 := fun h => hc (UInt8.toNat.inj (by rw [show (48 : UInt8).toNat = 48 from rfl]; omega))
    generalize ((L[0]?.getD 0).toNat : Int) = c0 at e0 d3
    have d4 : (c0 == 48) = false := by simpa using d3
    have e0' : ∀ W, Sem.run Tryz.prog (Instr.index 9 (.string s) (.int .i64 0)) W = .ok (.int .u8 c0) W := e0
    clear e0 hc
    go_enter Tryz.func89, Tryz.ntmps89
    go_wp2
    go_loop [4, 5] (fun v i => ∃ k : Nat, k ≤ n ∧ i = .int .i64 k ∧ v = .int .i64 (valD (L.take k)) ∧ (L.take k).all isD = true) (fun _ i => n - (intOf i).toNat)
    case atStart => exact ⟨0, by omega, rfl, rfl, rfl⟩
    case round =>
      obtain ⟨k, hk, rfl, rfl, ha⟩ := hrel
      have HA := Lib.hid ha
      clear ha
      by_cases hlt : k < n
      · have e1 := HIX.out k hlt
        have HT := Lib.hid (take_snoc L k (by rw [HL.out]; exact hlt))
        have HB := Lib.hid (valD_9 (l := L.take k) (by rw [List.length_take, HL.out]; omega) HA.out)
        generalize L[k]?.getD 0 = b at e1 HT
        have HC := Lib.hid (isD_iff b)
        have HZ := Lib.hid (show isD b = false → ∃ k, k < L.length ∧ isD (L[k]?.getD 0) = false from fun h => ⟨k, by rw [HL.out]; exact hlt, by
          have h2 := congrArg List.getLast? HT.out
          rw [List.getLast?_concat, List.getLast?_take] at h2
          rw [if_neg (by omega), show k + 1 - 1 = k by omega, List.getElem?_eq_getElem (by rw [HL.out]; exact hlt)] at h2
          rw [List.getElem?_eq_getElem (by rw [HL.out]; exact hlt)]
          simp at h2
          simp [h2, h]⟩)
        have HV := Lib.hid (valD_snoc (L.take k) b)
        obtain ⟨v, hv⟩ : ∃ v, v = valD (L.take k) := ⟨_, rfl⟩
        rw [← hv] at HB HV ⊢
        clear hv
        have hb2 : 0 ≤ (b.toNat : Int) := by omega
        by_cases hd : 48 ≤ (b.toNat : Int) ∧ (b.toNat : Int) ≤ 57
        · have hdd : decide (48 ≤ (b.toNat : Int) ∧ (b.toNat : Int) ≤ 57) = true := decide_eq_true hd
          have v0 : IntKind.i64.wrap (10 * v) = 10 * v := IntWalk.i64_in _ (by have := HB.out; omega)
          have hbd : isD b = true := HC.out.2 (by omega)
          have HBD := Lib.hid hbd
          obtain ⟨c, hc⟩ : ∃ c : Int, c = (b.toNat : Int) := ⟨_, rfl⟩
          rw [← hc] at e1 hd hdd hb2 HV
          clear hc hbd
          have v1 : IntKind.u8.wrap (c - 48) = c - 48 := IntWalk.u8_in _ (by omega)
          have v2 : IntKind.i64.wrap (c - 48) = c - 48 := IntWalk.i64_in _ (by omega)
          have v3 : IntKind.i64.wrap (10 * v + (c - 48)) = 10 * v + (c - 48) := IntWalk.i64_in _ (by have := HB.out; omega)
          have HD := Lib.hid hd
          clear hd
          go_wp2_with (go_at_call 144; refine (isDigit_any _ _).mono ?_; rintro e w' ⟨rfl, rfl⟩)
          go_round
          case rel => exact ⟨k + 1, by omega, by go_num, by rw [HT.out, HV.out], by rw [HT.out, List.all_append, HA.out]; simp [HBD.out]⟩
          case measure => simp [intOf]; omega
        · have hdd : decide (48 ≤ (b.toNat : Int) ∧ (b.toNat : Int) ≤ 57) = false := decide_eq_false hd
          have HR := Lib.hid (digOk_false (.inr (.inr (.inr (HZ.out (Bool.eq_false_iff.2 fun h => hd (by have := HC.out.1 h; omega)))))))
          clear hd
          go_wp2_with (go_at_call 144; refine (isDigit_any _ _).mono ?_; rintro e w' ⟨rfl, rfl⟩)
          go_ret2
          rw [digV_false HR.out, HR.out]
          exact ⟨rfl, rfl⟩
      · obtain rfl : k = n := by omega
        have hta : L.take k = L := List.take_of_length_le (by rw [HL.out]; omega)
        rw [hta] at HA ⊢
        have HR := Lib.hid (digOk_true (l := L) (by rw [HL.out]; omega) (by rw [HL.out]; omega) HO.out HA.out)
        clear hta
        go_wp2
        go_ret2
        rw [digV_true HR.out, HR.out]
        exact ⟨rfl, rfl⟩
end

section
set_option linter.unusedSimpArgs false
set_option linter.unusedVariables false
open Go.RowKit

theorem iter_below (w : World) (s : ByteArray) (k : Nat) : Below w.heap.size w (w.iter s k) := below_new _ _
theorem byteAt (s : ByteArray) (k : Nat) (hk : k < s.size) : s[k]'hk = s.data.toList[k]?.getD 0 := by
  have hk' : k < s.data.size := hk
  rw [List.getElem?_eq_getElem (by simpa using hk')]
  rfl
/-- what comes next of a text: an ASCII byte. -/
theorem next_lo (w : World) (s : ByteArray) (k : Nat) (hk : k < s.size) (h : (s.data.toList[k]?.getD 0).toNat < 128) (ty : TypeId) :
    Sem.run Tryz.prog (Instr.next (.pointer (some ⟨w.heap.size, 0, none⟩)) true ty) (w.iter s k) = .ok (.tuple #[.bool true, .int .i64 (k : Int), .int .i32 ((s.data.toList[k]?.getD 0).toNat : Int)]) (w.iter s (k + 1)) := by
  rw [run_next_ascii w s k ty hk (by rw [byteAt s k hk]; exact h), byteAt s k hk]
/-- something else. -/
theorem next_hi (w : World) (s : ByteArray) (k : Nat) (hk : k < s.size) (h : 128 ≤ (s.data.toList[k]?.getD 0).toNat) :
    ∃ (r : Int) (q : Nat), 57 < r ∧ ∀ ty, Sem.run Tryz.prog (Instr.next (.pointer (some ⟨w.heap.size, 0, none⟩)) true ty) (w.iter s k) = .ok (.tuple #[.bool true, .int .i64 (k : Int), .int .i32 r]) (w.iter s q) := by
  have hh := decode_high s k hk (by rw [byteAt s k hk]; exact h)
  exact ⟨((Utf8.decode s k).1 : Int), _, by omega, fun ty => run_next_any w s k ty hk⟩

set_option maxRecDepth 100000 in
set_option maxHeartbeats 2000000 in
theorem integer_any (s : ByteArray) (w : World) (hs : s.size ≤ 1000000) :
    Calls Tryz.prog 180 #[.string s] w fun e w' => (∃ v : Int, e = .returned (.tuple #[.int .i64 v, .bool (digOk s.data.toList)]) ∧ (digOk s.data.toList = true → v = valD s.data.toList)) ∧ Below w.heap.size w w' := by
  have HL := Lib.hid (data_len s)
  have hix := fun (k : Nat) (hk : k < s.size) W => idxS 9 Tryz.underlying9 s k hk W
  have hlo := fun (k : Nat) (hk : k < s.size) => next_lo w s k hk
  have hhi := fun (k : Nat) (hk : k < s.size) => next_hi w s k hk
  have hend := fun (k : Nat) (hk : ¬ k < s.size) ty => run_next_end (P := Tryz.prog) w s k ty hk
  have hibl := fun k => iter_below w s k
  have hse : s.toList.isEmpty = decide (s.data.toList.length = 0) := by
    rw [ByteArray.toList_eq]
    cases s.data.toList <;> rfl
  obtain ⟨L, hL⟩ : ∃ L, L = s.data.toList := ⟨_, rfl⟩
  rw [← hL] at HL hix hlo hhi hse ⊢
  have HIX := Lib.hid hix
  have HLO := Lib.hid hlo
  have HHI := Lib.hid hhi
  have HEND := Lib.hid hend
  have HIB := Lib.hid hibl
  clear hL hix hlo hhi hend hibl
  obtain ⟨n, hn⟩ : ∃ n, n = s.size := ⟨_, rfl⟩
  have hn' : s.size = n := hn.symm
  rw [HL.out, hn'] at hse
  rw [hn'] at HL HIX HLO HHI HEND hs
  clear hn
  by_cases h0 : n = 0
  · have HR := Lib.hid (digOk_false (l := L) (.inl (by rw [HL.out]; exact h0)))
    have d0 : (n : Int) = 0 := by omega
    have hse0 : s.toList.isEmpty = true := by rw [hse]; exact decide_eq_true h0
    have hnx := HEND.out 0 (by omega)
    clear hse
    go_enter Tryz.func180, Tryz.ntmps180
    go_wp2
    go_loopw [4] (fun v wr => v = .int .i64 0 ∧ wr = w.iter s 0) (fun _ _ => 0)
    case atStart => exact ⟨rfl, rfl⟩
    case round =>
      obtain ⟨rfl, rfl⟩ := hrel
      go_upto_region 8 with fail
      have hbb := HIB.out 0
      obtain ⟨V, hV⟩ : ∃ V, V = w.iter s 0 := ⟨_, rfl⟩
      rw [← hV] at hbb ⊢
      clear hV
      refine wp_region_E 99 (by kernel_rfl) ?_
      obtain ⟨wz, hwz⟩ : ∃ v, v = V.drew := ⟨_, rfl⟩
      rw [← hwz]
      have hlz : Below V.heap.size V wz := by rw [hwz]; exact (Below.refl _ _).drew
      have hbz := bthen hbb hlz
      clear hwz hlz
      refine wpAnyE_take (i := 0) (oi := { dst := some 29, op := Op.move (Operand.tmp 4), type := 3, pos := "filter.go:298", after := #[], guard := none }) (v := ?_) rfl (by kernel_rfl) (by kernel_rfl) (by kernel_rfl) (by kernel_rfl) (fun _ _ _ h => h) (Or.inl ⟨by rfl, ?_⟩) ?_
      rotate_left
      · (intro w hE; (try dsimp only); go_simp); (try with_reducible rfl)
      try simp only [Act.put, List.setIfInBounds_toArray, List.set_cons_zero, List.set_cons_succ]
      refine wpAnyE_take (i := 1) (oi := { dst := some 30, op := Op.move (Operand.tmp 0), type := 9, pos := "filter.go:298", after := #[], guard := none }) (v := ?_) rfl (by kernel_rfl) (by kernel_rfl) (by kernel_rfl) (by kernel_rfl) (fun _ _ _ h => h) (Or.inl ⟨by rfl, ?_⟩) ?_
      rotate_left
      · (intro w hE; (try dsimp only); go_simp); (try with_reducible rfl)
      try simp only [Act.put, List.setIfInBounds_toArray, List.set_cons_zero, List.set_cons_succ]
      refine wpAnyE_take (i := 2) (oi := { dst := some 31, op := Op.binOp BinOp.neq 9 (Operand.tmp 30) (Operand.const (Value.string { data := #[] })) 9, type := 4, pos := "filter.go:298", after := #[{ on := 1, ground := Ground.data }], guard := none }) (v := ?_) rfl (by kernel_rfl) (by kernel_rfl) (by kernel_rfl) (by kernel_rfl) (fun _ _ _ h => h) (Or.inl ⟨by rfl, ?_⟩) ?_
      rotate_left
      · (intro w hE; (try dsimp only); go_simp); (try with_reducible rfl)
      try simp only [Act.put, List.setIfInBounds_toArray, List.set_cons_zero, List.set_cons_succ]
      refine wpAnyE_take (i := 3) (oi := { dst := some 32, op := Op.move (Operand.tmp 31), type := 4, pos := "filter.go:298", after := #[{ on := 2, ground := Ground.data }], guard := none }) (v := ?_) rfl (by kernel_rfl) (by kernel_rfl) (by kernel_rfl) (by kernel_rfl) (fun _ _ _ h => h) (Or.inl ⟨by rfl, ?_⟩) ?_
      rotate_left
      · (intro w hE; (try dsimp only); go_simp); (try with_reducible rfl)
      try simp only [Act.put, List.setIfInBounds_toArray, List.set_cons_zero, List.set_cons_succ]
      refine wpAnyE_take (i := 4) (oi := { dst := some 33, op := Op.move (Operand.tmp 0), type := 9, pos := "filter.go:298", after := #[{ on := 3, ground := Ground.guard }], guard := some (3, true) }) (v := undef) rfl (by kernel_rfl) (by kernel_rfl) (by kernel_rfl) (by kernel_rfl) (fun _ _ _ h => h) (Or.inr (Or.inr ⟨by rfl, rfl⟩)) ?_
      try simp only [Act.put, List.setIfInBounds_toArray, List.set_cons_zero, List.set_cons_succ]
      refine wpAnyE_take (i := 5) (oi := { dst := some 34, op := Op.call { callee := Callee.builtin Builtin.len, args := #[Operand.tmp 33], argTypes := #[9] }, type := 3, pos := "filter.go:298", after := #[{ on := 4, ground := Ground.data }, { on := 3, ground := Ground.guard }], guard := some (3, true) }) (v := undef) rfl (by kernel_rfl) (by kernel_rfl) (by kernel_rfl) (by kernel_rfl) (fun _ _ _ h => h) (Or.inr (Or.inr ⟨by rfl, rfl⟩)) ?_
      try simp only [Act.put, List.setIfInBounds_toArray, List.set_cons_zero, List.set_cons_succ]
      refine wpAnyE_take (i := 6) (oi := { dst := some 35, op := Op.binOp BinOp.eql 3 (Operand.tmp 34) (Operand.const (Value.int IntKind.i64 1)) 3, type := 4, pos := "filter.go:298", after := #[{ on := 5, ground := Ground.data }, { on := 3, ground := Ground.guard }], guard := some (3, true) }) (v := undef) rfl (by kernel_rfl) (by kernel_rfl) (by kernel_rfl) (by kernel_rfl) (fun _ _ _ h => h) (Or.inr (Or.inr ⟨by rfl, rfl⟩)) ?_
      try simp only [Act.put, List.setIfInBounds_toArray, List.set_cons_zero, List.set_cons_succ]
      refine wpAnyE_take (i := 7) (oi := { dst := some 36, op := Op.move (Operand.tmp 35), type := 4, pos := "filter.go:298", after := #[{ on := 6, ground := Ground.data }, { on := 3, ground := Ground.chain }, { on := 3, ground := Ground.guard }], guard := some (3, true) }) (v := undef) rfl (by kernel_rfl) (by kernel_rfl) (by kernel_rfl) (by kernel_rfl) (fun _ _ _ h => h) (Or.inr (Or.inr ⟨by rfl, rfl⟩)) ?_
      try simp only [Act.put, List.setIfInBounds_toArray, List.set_cons_zero, List.set_cons_succ]
      refine wpAnyE_take (i := 8) (oi := { dst := some 37, op := Op.move (Operand.tmp 0), type := 9, pos := "filter.go:298", after := #[{ on := 7, ground := Ground.guard }, { on := 13, ground := Ground.gcOnly Departure.lateStores }], guard := some (7, false) }) (v := undef) rfl (by kernel_rfl) (by kernel_rfl) (by kernel_rfl) (by kernel_rfl) (fun _ _ _ h => h) (Or.inr (Or.inr ⟨by rfl, rfl⟩)) ?_
      try simp only [Act.put, List.setIfInBounds_toArray, List.set_cons_zero, List.set_cons_succ]
      refine wpAnyE_take (i := 9) (oi := { dst := some 38, op := Op.index 9 (Operand.tmp 37) (Operand.const (Value.int IntKind.i64 0)), type := 5, pos := "filter.go:298", after := #[{ on := 8, ground := Ground.data }, { on := 7, ground := Ground.guard }, { on := 13, ground := Ground.gcOnly Departure.lateStores }], guard := some (7, false) }) (v := undef) rfl (by kernel_rfl) (by kernel_rfl) (by kernel_rfl) (by kernel_rfl) (fun _ _ _ h => h) (Or.inr (Or.inr ⟨by rfl, rfl⟩)) ?_
      try simp only [Act.put, List.setIfInBounds_toArray, List.set_cons_zero, List.set_cons_succ]
      refine wpAnyE_take (i := 10) (oi := { dst := some 39, op := Op.binOp BinOp.neq 5 (Operand.tmp 38) (Operand.const (Value.int IntKind.u8 48)) 5, type := 4, pos := "filter.go:298", after := #[{ on := 9, ground := Ground.data }, { on := 7, ground := Ground.guard }, { on := 13, ground := Ground.gcOnly Departure.lateStores }], guard := some (7, false) }) (v := undef) rfl (by kernel_rfl) (by kernel_rfl) (by kernel_rfl) (by kernel_rfl) (fun _ _ _ h => h) (Or.inr (Or.inr ⟨by rfl, rfl⟩)) ?_
      try simp only [Act.put, List.setIfInBounds_toArray, List.set_cons_zero, List.set_cons_succ]
      refine wpAnyE_take (i := 11) (oi := { dst := some 40, op := Op.pick (Operand.tmp 36) (Operand.const (Value.bool true)) (Operand.tmp 39), type := 4, pos := "filter.go:298", after := #[{ on := 7, ground := Ground.data }, { on := 10, ground := Ground.data }, { on := 3, ground := Ground.guard }, { on := 13, ground := Ground.gcOnly Departure.lateStores }], guard := some (3, true) }) (v := undef) rfl (by kernel_rfl) (by kernel_rfl) (by kernel_rfl) (by kernel_rfl) (fun _ _ _ h => h) (Or.inr (Or.inr ⟨by rfl, rfl⟩)) ?_
      try simp only [Act.put, List.setIfInBounds_toArray, List.set_cons_zero, List.set_cons_succ]
      refine wpAnyE_take (i := 12) (oi := { dst := some 41, op := Op.pick (Operand.tmp 32) (Operand.tmp 40) (Operand.const (Value.bool false)), type := 4, pos := "filter.go:298", after := #[{ on := 3, ground := Ground.data }, { on := 11, ground := Ground.data }, { on := 13, ground := Ground.gcOnly Departure.lateStores }], guard := none }) (v := ?_) rfl (by kernel_rfl) (by kernel_rfl) (by kernel_rfl) (by kernel_rfl) (fun _ _ _ h => h) (Or.inl ⟨by rfl, ?_⟩) ?_
      rotate_left
      · (intro w hE; (try dsimp only); go_simp); (try with_reducible rfl)
      try simp only [Act.put, List.setIfInBounds_toArray, List.set_cons_zero, List.set_cons_succ]
      refine wpAnyE_take (i := 13) (oi := { dst := some 2, op := Op.assign (Operand.tmp 29), type := 3, pos := "filter.go:298", after := #[{ on := 0, ground := Ground.data }, { on := 7, ground := Ground.chain }, { on := 0, ground := Ground.phase }, { on := 1, ground := Ground.textOnly Departure.lateStores }, { on := 2, ground := Ground.textOnly Departure.lateStores }, { on := 3, ground := Ground.textOnly Departure.lateStores }, { on := 4, ground := Ground.textOnly Departure.lateStores }, { on := 5, ground := Ground.textOnly Departure.lateStoresUnsure }, { on := 6, ground := Ground.textOnly Departure.lateStores }, { on := 7, ground := Ground.textOnly Departure.lateStores }, { on := 8, ground := Ground.textOnly Departure.lateStores }, { on := 9, ground := Ground.textOnly Departure.lateStores }, { on := 10, ground := Ground.textOnly Departure.lateStores }, { on := 11, ground := Ground.textOnly Departure.lateStores }, { on := 12, ground := Ground.textOnly Departure.lateStores }], guard := none }) (v := ?_) rfl (by kernel_rfl) (by kernel_rfl) (by kernel_rfl) (by kernel_rfl) (fun _ _ _ h => h) (Or.inl ⟨by rfl, ?_⟩) ?_
      rotate_left
      · (intro w hE; (try dsimp only); go_simp); (try with_reducible rfl)
      try simp only [Act.put, List.setIfInBounds_toArray, List.set_cons_zero, List.set_cons_succ]
      refine wpAnyE_take (i := 14) (oi := { dst := some 3, op := Op.assign (Operand.tmp 41), type := 4, pos := "filter.go:298", after := #[{ on := 12, ground := Ground.data }, { on := 13, ground := Ground.chain }, { on := 0, ground := Ground.phase }, { on := 1, ground := Ground.phase }, { on := 2, ground := Ground.phase }, { on := 3, ground := Ground.phase }, { on := 4, ground := Ground.phase }, { on := 5, ground := Ground.phase }, { on := 6, ground := Ground.phase }, { on := 7, ground := Ground.phase }, { on := 8, ground := Ground.phase }, { on := 9, ground := Ground.phase }, { on := 10, ground := Ground.phase }, { on := 11, ground := Ground.phase }, { on := 12, ground := Ground.phase }, { on := 13, ground := Ground.phase }], guard := none }) (v := ?_) rfl (by kernel_rfl) (by kernel_rfl) (by kernel_rfl) (by kernel_rfl) (fun _ _ _ h => h) (Or.inl ⟨by rfl, ?_⟩) ?_
      rotate_left
      · (intro w hE; (try dsimp only); go_simp); (try with_reducible rfl)
      try simp only [Act.put, List.setIfInBounds_toArray, List.set_cons_zero, List.set_cons_succ]
      refine wpAnyE_done (by kernel_rfl) (fun wy1 hE => ?_) _
      have hbz1 := bthen hbz hE
      clear hE
      go_wp2_with fail
      go_ret2
      rw [HR.out]
      exact ⟨⟨_, rfl, fun h => by cases h⟩, by exact hbz1⟩
  have hse0 : s.toList.isEmpty = false := by rw [hse]; exact decide_eq_false h0
  clear hse
  by_cases h9 : 9 < n
  · have HR := Lib.hid (digOk_false (l := L) (.inr (.inl (by rw [HL.out]; exact h9))))
    have d1 : 9 < (n : Int) := by omega
    go_enter Tryz.func180, Tryz.ntmps180
    go_wp2
    go_loopw [4] (fun v wr => v = .int .i64 0 ∧ wr = w.iter s 0) (fun _ _ => 0)
    case atStart => exact ⟨rfl, rfl⟩
    case round =>
      obtain ⟨rfl, rfl⟩ := hrel
      by_cases hc : (L[0]?.getD 0).toNat < 128
      · have hnx := HLO.out 0 (by omega) hc
        generalize ((L[0]?.getD 0).toNat : Int) = c at hnx
        clear hc
        by_cases c1 : c < 48
        · go_wp2
          go_ret2
          rw [HR.out]
          exact ⟨⟨_, rfl, fun h => by cases h⟩, HIB.out _⟩
        · by_cases c2 : 57 < c
          · go_wp2
            go_ret2
            rw [HR.out]
            exact ⟨⟨_, rfl, fun h => by cases h⟩, HIB.out _⟩
          · go_wp2
            go_ret2
            rw [HR.out]
            exact ⟨⟨_, rfl, fun h => by cases h⟩, HIB.out _⟩
      · obtain ⟨r, q, hr, hnx⟩ := HHI.out 0 (by omega) (by omega)
        clear hc
        by_cases c1 : r < 48
        · omega
        · go_wp2
          go_ret2
          rw [HR.out]
          exact ⟨⟨_, rfl, fun h => by cases h⟩, HIB.out _⟩
  have d1 : ¬ 9 < (n : Int) := by omega
  have H0 := Lib.hid h0
  have H9 := Lib.hid h9
  clear h0 h9
  go_enter Tryz.func180, Tryz.ntmps180
  go_wp2
  go_loopw [4] (fun v wr => ∃ k : Nat, k ≤ n ∧ v = .int .i64 (valD (L.take k)) ∧ (L.take k).all isD = true ∧ wr = w.iter s k) (fun _ wr => n - wr.iterPos w.heap.size)
  case atStart => exact ⟨0, by omega, rfl, rfl, rfl⟩
  case round =>
    obtain ⟨k, hk, rfl, ha, rfl⟩ := hrel
    have HA := Lib.hid ha
    clear ha
    by_cases hlt : k < n
    · have HT := Lib.hid (take_snoc L k (by rw [HL.out]; exact hlt))
      have HB := Lib.hid (valD_9 (l := L.take k) (by rw [List.length_take, HL.out]; have := H9.out; omega) HA.out)
      have HBL := HLO.out k hlt
      have HBH := HHI.out k hlt
      have hgl : ∀ b : UInt8, L[k]?.getD 0 = b → isD b = false → digOk L = false := fun b hb h => digOk_false (.inr (.inr (.inr ⟨k, by rw [HL.out]; exact hlt, by rw [hb]; exact h⟩)))
      generalize hbb : L[k]?.getD 0 = b at HT HBL HBH
      have HC := Lib.hid (isD_iff b)
      have HZ := Lib.hid (hgl b hbb)
      have HV := Lib.hid (valD_snoc (L.take k) b)
      clear hgl hbb
      obtain ⟨v, hv⟩ : ∃ v, v = valD (L.take k) := ⟨_, rfl⟩
      rw [← hv] at HB HV ⊢
      clear hv
      have hb2 : 0 ≤ (b.toNat : Int) := by omega
      by_cases hc : b.toNat < 128
      · have hnx := HBL hc
        clear HBL HBH
        by_cases hd : 48 ≤ (b.toNat : Int) ∧ (b.toNat : Int) ≤ 57
        · have v0 : IntKind.i64.wrap (10 * v) = 10 * v := IntWalk.i64_in _ (by have := HB.out; omega)
          have HBD := Lib.hid (HC.out.2 (by omega))
          obtain ⟨c, hcc⟩ : ∃ c : Int, c = (b.toNat : Int) := ⟨_, rfl⟩
          rw [← hcc] at hnx hd hb2 HV
          clear hcc hc
          have c1 : ¬ c < 48 := by omega
          have c2 : ¬ 57 < c := by omega
          have v1 : IntKind.i32.wrap (c - 48) = c - 48 := IntWalk.i32_in _ (by omega)
          have v2 : IntKind.i64.wrap (c - 48) = c - 48 := IntWalk.i64_in _ (by omega)
          have v3 : IntKind.i64.wrap (10 * v + (c - 48)) = 10 * v + (c - 48) := IntWalk.i64_in _ (by have := HB.out; omega)
          clear hd
          go_wp2
          go_roundw
          case rel => exact ⟨k + 1, by omega, by rw [HT.out, HV.out], by rw [HT.out, List.all_append, HA.out]; simp [HBD.out], rfl⟩
          case measure => simp; omega
        · have HR := Lib.hid (HZ.out (Bool.eq_false_iff.2 fun h => hd (by have := HC.out.1 h; omega)))
          generalize (b.toNat : Int) = c at hnx hd hb2
          clear hc
          by_cases c1 : c < 48
          · clear hd
            go_wp2
            go_ret2
            rw [HR.out]
            exact ⟨⟨_, rfl, fun h => by cases h⟩, HIB.out _⟩
          · have c2 : 57 < c := by omega
            clear hd
            go_wp2
            go_ret2
            rw [HR.out]
            exact ⟨⟨_, rfl, fun h => by cases h⟩, HIB.out _⟩
      · have HR := Lib.hid (HZ.out (Bool.eq_false_iff.2 fun h => by have := HC.out.1 h; omega))
        obtain ⟨r, q, hr, hnx⟩ := HBH (by omega)
        clear HBL HBH hc
        have c1 : ¬ r < 48 := by omega
        go_wp2
        go_ret2
        rw [HR.out]
        exact ⟨⟨_, rfl, fun h => by cases h⟩, HIB.out _⟩
    · obtain rfl : k = n := by omega
      have hta : L.take k = L := List.take_of_length_le (by rw [HL.out]; omega)
      rw [hta] at HA ⊢
      clear hta
      have hnx := HEND.out k (by omega)
      have HE := Lib.hid (fun (h : L.length = 1 ∨ L[0]?.getD 0 ≠ 48) => digOk_true (l := L) (by rw [HL.out]; exact H0.out) (by rw [HL.out]; have := H9.out; omega) h HA.out)
      have HF := Lib.hid (fun (h1 : k ≠ 1) (h : L[0]?.getD 0 = 48) => digOk_false (l := L) (.inr (.inr (.inl ⟨by rw [HL.out]; exact h1, h⟩))))
      have e0 := HIX.out 0 (by have := H0.out; omega)
      by_cases h1 : k = 1
      · have HR := Lib.hid (HE.out (.inl (by rw [HL.out]; exact h1)))
        have d2 : (k : Int) = 1 := by omega
        have d3 : ((k : Int) == 1) = true := by simpa using d2
        clear e0 h1
        go_upto_region 8 with fail
        have hbb := HIB.out k
        obtain ⟨V, hV⟩ : ∃ V, V = w.iter s k := ⟨_, rfl⟩
        rw [← hV] at hbb ⊢
        clear hV
        refine wp_region_E 99 (by kernel_rfl) ?_
        obtain ⟨wz, hwz⟩ : ∃ v, v = V.drew := ⟨_, rfl⟩
        rw [← hwz]
        have hlz : Below V.heap.size V wz := by rw [hwz]; exact (Below.refl _ _).drew
        have hbz := bthen hbb hlz
        clear hwz hlz
        refine wpAnyE_take (i := 0) (oi := { dst := some 29, op := Op.move (Operand.tmp 4), type := 3, pos := "filter.go:298", after := #[], guard := none }) (v := ?_) rfl (by kernel_rfl) (by kernel_rfl) (by kernel_rfl) (by kernel_rfl) (fun _ _ _ h => h) (Or.inl ⟨by rfl, ?_⟩) ?_
        rotate_left
        · (intro w hE; (try dsimp only); go_simp); (try with_reducible rfl)
        try simp only [Act.put, List.setIfInBounds_toArray, List.set_cons_zero, List.set_cons_succ]
        refine wpAnyE_take (i := 1) (oi := { dst := some 30, op := Op.move (Operand.tmp 0), type := 9, pos := "filter.go:298", after := #[], guard := none }) (v := ?_) rfl (by kernel_rfl) (by kernel_rfl) (by kernel_rfl) (by kernel_rfl) (fun _ _ _ h => h) (Or.inl ⟨by rfl, ?_⟩) ?_
        rotate_left
        · (intro w hE; (try dsimp only); go_simp); (try with_reducible rfl)
        try simp only [Act.put, List.setIfInBounds_toArray, List.set_cons_zero, List.set_cons_succ]
        refine wpAnyE_take (i := 2) (oi := { dst := some 31, op := Op.binOp BinOp.neq 9 (Operand.tmp 30) (Operand.const (Value.string { data := #[] })) 9, type := 4, pos := "filter.go:298", after := #[{ on := 1, ground := Ground.data }], guard := none }) (v := ?_) rfl (by kernel_rfl) (by kernel_rfl) (by kernel_rfl) (by kernel_rfl) (fun _ _ _ h => h) (Or.inl ⟨by rfl, ?_⟩) ?_
        rotate_left
        · (intro w hE; (try dsimp only); go_simp); (try with_reducible rfl)
        try simp only [Act.put, List.setIfInBounds_toArray, List.set_cons_zero, List.set_cons_succ]
        refine wpAnyE_take (i := 3) (oi := { dst := some 32, op := Op.move (Operand.tmp 31), type := 4, pos := "filter.go:298", after := #[{ on := 2, ground := Ground.data }], guard := none }) (v := ?_) rfl (by kernel_rfl) (by kernel_rfl) (by kernel_rfl) (by kernel_rfl) (fun _ _ _ h => h) (Or.inl ⟨by rfl, ?_⟩) ?_
        rotate_left
        · (intro w hE; (try dsimp only); go_simp); (try with_reducible rfl)
        try simp only [Act.put, List.setIfInBounds_toArray, List.set_cons_zero, List.set_cons_succ]
        refine wpAnyE_take (i := 4) (oi := { dst := some 33, op := Op.move (Operand.tmp 0), type := 9, pos := "filter.go:298", after := #[{ on := 3, ground := Ground.guard }], guard := some (3, true) }) (v := ?_) rfl (by kernel_rfl) (by kernel_rfl) (by kernel_rfl) (by kernel_rfl) (fun _ _ _ h => h) (Or.inl ⟨by rfl, ?_⟩) ?_
        rotate_left
        · (intro w hE; (try dsimp only); go_simp); (try with_reducible rfl)
        try simp only [Act.put, List.setIfInBounds_toArray, List.set_cons_zero, List.set_cons_succ]
        refine wpAnyE_take (i := 5) (oi := { dst := some 34, op := Op.call { callee := Callee.builtin Builtin.len, args := #[Operand.tmp 33], argTypes := #[9] }, type := 3, pos := "filter.go:298", after := #[{ on := 4, ground := Ground.data }, { on := 3, ground := Ground.guard }], guard := some (3, true) }) (v := ?_) rfl (by kernel_rfl) (by kernel_rfl) (by kernel_rfl) (by kernel_rfl) (fun _ _ _ h => h) (Or.inl ⟨by rfl, ?_⟩) ?_
        rotate_left
        · (intro w hE; (try dsimp only); go_simp); (try with_reducible rfl)
        try simp only [Act.put, List.setIfInBounds_toArray, List.set_cons_zero, List.set_cons_succ]
        refine wpAnyE_take (i := 6) (oi := { dst := some 35, op := Op.binOp BinOp.eql 3 (Operand.tmp 34) (Operand.const (Value.int IntKind.i64 1)) 3, type := 4, pos := "filter.go:298", after := #[{ on := 5, ground := Ground.data }, { on := 3, ground := Ground.guard }], guard := some (3, true) }) (v := ?_) rfl (by kernel_rfl) (by kernel_rfl) (by kernel_rfl) (by kernel_rfl) (fun _ _ _ h => h) (Or.inl ⟨by rfl, ?_⟩) ?_
        rotate_left
        · (intro w hE; (try dsimp only); go_simp); (try with_reducible rfl)
        try simp only [Act.put, List.setIfInBounds_toArray, List.set_cons_zero, List.set_cons_succ]
        refine wpAnyE_take (i := 7) (oi := { dst := some 36, op := Op.move (Operand.tmp 35), type := 4, pos := "filter.go:298", after := #[{ on := 6, ground := Ground.data }, { on := 3, ground := Ground.chain }, { on := 3, ground := Ground.guard }], guard := some (3, true) }) (v := ?_) rfl (by kernel_rfl) (by kernel_rfl) (by kernel_rfl) (by kernel_rfl) (fun _ _ _ h => h) (Or.inl ⟨by rfl, ?_⟩) ?_
        rotate_left
        · (intro w hE; (try dsimp only); go_simp); (try with_reducible rfl)
        try simp only [Act.put, List.setIfInBounds_toArray, List.set_cons_zero, List.set_cons_succ]
        refine wpAnyE_take (i := 8) (oi := { dst := some 37, op := Op.move (Operand.tmp 0), type := 9, pos := "filter.go:298", after := #[{ on := 7, ground := Ground.guard }, { on := 13, ground := Ground.gcOnly Departure.lateStores }], guard := some (7, false) }) (v := undef) rfl (by kernel_rfl) (by kernel_rfl) (by kernel_rfl) (by kernel_rfl) (fun _ _ _ h => h) (Or.inr (Or.inr ⟨by rfl, rfl⟩)) ?_
        try simp only [Act.put, List.setIfInBounds_toArray, List.set_cons_zero, List.set_cons_succ]
        refine wpAnyE_take (i := 9) (oi := { dst := some 38, op := Op.index 9 (Operand.tmp 37) (Operand.const (Value.int IntKind.i64 0)), type := 5, pos := "filter.go:298", after := #[{ on := 8, ground := Ground.data }, { on := 7, ground := Ground.guard }, { on := 13, ground := Ground.gcOnly Departure.lateStores }], guard := some (7, false) }) (v := undef) rfl (by kernel_rfl) (by kernel_rfl) (by kernel_rfl) (by kernel_rfl) (fun _ _ _ h => h) (Or.inr (Or.inr ⟨by rfl, rfl⟩)) ?_
        try simp only [Act.put, List.setIfInBounds_toArray, List.set_cons_zero, List.set_cons_succ]
        refine wpAnyE_take (i := 10) (oi := { dst := some 39, op := Op.binOp BinOp.neq 5 (Operand.tmp 38) (Operand.const (Value.int IntKind.u8 48)) 5, type := 4, pos := "filter.go:298", after := #[{ on := 9, ground := Ground.data }, { on := 7, ground := Ground.guard }, { on := 13, ground := Ground.gcOnly Departure.lateStores }], guard := some (7, false) }) (v := undef) rfl (by kernel_rfl) (by kernel_rfl) (by kernel_rfl) (by kernel_rfl) (fun _ _ _ h => h) (Or.inr (Or.inr ⟨by rfl, rfl⟩)) ?_
        try simp only [Act.put, List.setIfInBounds_toArray, List.set_cons_zero, List.set_cons_succ]
        refine wpAnyE_take (i := 11) (oi := { dst := some 40, op := Op.pick (Operand.tmp 36) (Operand.const (Value.bool true)) (Operand.tmp 39), type := 4, pos := "filter.go:298", after := #[{ on := 7, ground := Ground.data }, { on := 10, ground := Ground.data }, { on := 3, ground := Ground.guard }, { on := 13, ground := Ground.gcOnly Departure.lateStores }], guard := some (3, true) }) (v := ?_) rfl (by kernel_rfl) (by kernel_rfl) (by kernel_rfl) (by kernel_rfl) (fun _ _ _ h => h) (Or.inl ⟨by rfl, ?_⟩) ?_
        rotate_left
        · (intro w hE; (try dsimp only); go_simp); (try with_reducible rfl)
        try simp only [Act.put, List.setIfInBounds_toArray, List.set_cons_zero, List.set_cons_succ]
        refine wpAnyE_take (i := 12) (oi := { dst := some 41, op := Op.pick (Operand.tmp 32) (Operand.tmp 40) (Operand.const (Value.bool false)), type := 4, pos := "filter.go:298", after := #[{ on := 3, ground := Ground.data }, { on := 11, ground := Ground.data }, { on := 13, ground := Ground.gcOnly Departure.lateStores }], guard := none }) (v := ?_) rfl (by kernel_rfl) (by kernel_rfl) (by kernel_rfl) (by kernel_rfl) (fun _ _ _ h => h) (Or.inl ⟨by rfl, ?_⟩) ?_
        rotate_left
        · (intro w hE; (try dsimp only); go_simp); (try with_reducible rfl)
        try simp only [Act.put, List.setIfInBounds_toArray, List.set_cons_zero, List.set_cons_succ]
        refine wpAnyE_take (i := 13) (oi := { dst := some 2, op := Op.assign (Operand.tmp 29), type := 3, pos := "filter.go:298", after := #[{ on := 0, ground := Ground.data }, { on := 7, ground := Ground.chain }, { on := 0, ground := Ground.phase }, { on := 1, ground := Ground.textOnly Departure.lateStores }, { on := 2, ground := Ground.textOnly Departure.lateStores }, { on := 3, ground := Ground.textOnly Departure.lateStores }, { on := 4, ground := Ground.textOnly Departure.lateStores }, { on := 5, ground := Ground.textOnly Departure.lateStoresUnsure }, { on := 6, ground := Ground.textOnly Departure.lateStores }, { on := 7, ground := Ground.textOnly Departure.lateStores }, { on := 8, ground := Ground.textOnly Departure.lateStores }, { on := 9, ground := Ground.textOnly Departure.lateStores }, { on := 10, ground := Ground.textOnly Departure.lateStores }, { on := 11, ground := Ground.textOnly Departure.lateStores }, { on := 12, ground := Ground.textOnly Departure.lateStores }], guard := none }) (v := ?_) rfl (by kernel_rfl) (by kernel_rfl) (by kernel_rfl) (by kernel_rfl) (fun _ _ _ h => h) (Or.inl ⟨by rfl, ?_⟩) ?_
        rotate_left
        · (intro w hE; (try dsimp only); go_simp); (try with_reducible rfl)
        try simp only [Act.put, List.setIfInBounds_toArray, List.set_cons_zero, List.set_cons_succ]
        refine wpAnyE_take (i := 14) (oi := { dst := some 3, op := Op.assign (Operand.tmp 41), type := 4, pos := "filter.go:298", after := #[{ on := 12, ground := Ground.data }, { on := 13, ground := Ground.chain }, { on := 0, ground := Ground.phase }, { on := 1, ground := Ground.phase }, { on := 2, ground := Ground.phase }, { on := 3, ground := Ground.phase }, { on := 4, ground := Ground.phase }, { on := 5, ground := Ground.phase }, { on := 6, ground := Ground.phase }, { on := 7, ground := Ground.phase }, { on := 8, ground := Ground.phase }, { on := 9, ground := Ground.phase }, { on := 10, ground := Ground.phase }, { on := 11, ground := Ground.phase }, { on := 12, ground := Ground.phase }, { on := 13, ground := Ground.phase }], guard := none }) (v := ?_) rfl (by kernel_rfl) (by kernel_rfl) (by kernel_rfl) (by kernel_rfl) (fun _ _ _ h => h) (Or.inl ⟨by rfl, ?_⟩) ?_
        rotate_left
        · (intro w hE; (try dsimp only); go_simp); (try with_reducible rfl)
        try simp only [Act.put, List.setIfInBounds_toArray, List.set_cons_zero, List.set_cons_succ]
        refine wpAnyE_done (by kernel_rfl) (fun wy1 hE => ?_) _
        have hbz1 := bthen hbz hE
        clear hE
        go_wp2_with fail
        go_ret2
        rw [HR.out]
        exact ⟨⟨_, rfl, fun h => rfl⟩, by exact hbz1⟩
      · have d2 : (k : Int) ≠ 1 := by omega
        have d3 : ((k : Int) == 1) = false := by simpa using d2
        have HF1 := Lib.hid (HF.out h1)
        clear h1
        by_cases h48 : L[0]?.getD 0 = 48
        · have HR := Lib.hid (HF1.out h48)
          rw [h48] at e0
          have e0' : ∀ W, Sem.run Tryz.prog (Instr.index 9 (.string s) (.int .i64 0)) W = .ok (.int .u8 48) W := e0
          clear e0 h48
          go_upto_region 8 with fail
          have hbb := HIB.out k
          obtain ⟨V, hV⟩ : ∃ V, V = w.iter s k := ⟨_, rfl⟩
          rw [← hV] at hbb ⊢
          clear hV
          refine wp_region_E 99 (by kernel_rfl) ?_
          obtain ⟨wz, hwz⟩ : ∃ v, v = V.drew := ⟨_, rfl⟩
          rw [← hwz]
          have hlz : Below V.heap.size V wz := by rw [hwz]; exact (Below.refl _ _).drew
          have hbz := bthen hbb hlz
          clear hwz hlz
          refine wpAnyE_take (i := 0) (oi := { dst := some 29, op := Op.move (Operand.tmp 4), type := 3, pos := "filter.go:298", after := #[], guard := none }) (v := ?_) rfl (by kernel_rfl) (by kernel_rfl) (by kernel_rfl) (by kernel_rfl) (fun _ _ _ h => h) (Or.inl ⟨by rfl, ?_⟩) ?_
          rotate_left
          · (intro w hE; (try dsimp only); go_simp); (try with_reducible rfl)
          try simp only [Act.put, List.setIfInBounds_toArray, List.set_cons_zero, List.set_cons_succ]
          refine wpAnyE_take (i := 1) (oi := { dst := some 30, op := Op.move (Operand.tmp 0), type := 9, pos := "filter.go:298", after := #[], guard := none }) (v := ?_) rfl (by kernel_rfl) (by kernel_rfl) (by kernel_rfl) (by kernel_rfl) (fun _ _ _ h => h) (Or.inl ⟨by rfl, ?_⟩) ?_
          rotate_left
          · (intro w hE; (try dsimp only); go_simp); (try with_reducible rfl)
          try simp only [Act.put, List.setIfInBounds_toArray, List.set_cons_zero, List.set_cons_succ]
          refine wpAnyE_take (i := 2) (oi := { dst := some 31, op := Op.binOp BinOp.neq 9 (Operand.tmp 30) (Operand.const (Value.string { data := #[] })) 9, type := 4, pos := "filter.go:298", after := #[{ on := 1, ground := Ground.data }], guard := none }) (v := ?_) rfl (by kernel_rfl) (by kernel_rfl) (by kernel_rfl) (by kernel_rfl) (fun _ _ _ h => h) (Or.inl ⟨by rfl, ?_⟩) ?_
          rotate_left
          · (intro w hE; (try dsimp only); go_simp); (try with_reducible rfl)
          try simp only [Act.put, List.setIfInBounds_toArray, List.set_cons_zero, List.set_cons_succ]
          refine wpAnyE_take (i := 3) (oi := { dst := some 32, op := Op.move (Operand.tmp 31), type := 4, pos := "filter.go:298", after := #[{ on := 2, ground := Ground.data }], guard := none }) (v := ?_) rfl (by kernel_rfl) (by kernel_rfl) (by kernel_rfl) (by kernel_rfl) (fun _ _ _ h => h) (Or.inl ⟨by rfl, ?_⟩) ?_
          rotate_left
          · (intro w hE; (try dsimp only); go_simp); (try with_reducible rfl)
          try simp only [Act.put, List.setIfInBounds_toArray, List.set_cons_zero, List.set_cons_succ]
          refine wpAnyE_take (i := 4) (oi := { dst := some 33, op := Op.move (Operand.tmp 0), type := 9, pos := "filter.go:298", after := #[{ on := 3, ground := Ground.guard }], guard := some (3, true) }) (v := ?_) rfl (by kernel_rfl) (by kernel_rfl) (by kernel_rfl) (by kernel_rfl) (fun _ _ _ h => h) (Or.inl ⟨by rfl, ?_⟩) ?_
          rotate_left
          · (intro w hE; (try dsimp only); go_simp); (try with_reducible rfl)
          try simp only [Act.put, List.setIfInBounds_toArray, List.set_cons_zero, List.set_cons_succ]
          refine wpAnyE_take (i := 5) (oi := { dst := some 34, op := Op.call { callee := Callee.builtin Builtin.len, args := #[Operand.tmp 33], argTypes := #[9] }, type := 3, pos := "filter.go:298", after := #[{ on := 4, ground := Ground.data }, { on := 3, ground := Ground.guard }], guard := some (3, true) }) (v := ?_) rfl (by kernel_rfl) (by kernel_rfl) (by kernel_rfl) (by kernel_rfl) (fun _ _ _ h => h) (Or.inl ⟨by rfl, ?_⟩) ?_
          rotate_left
          · (intro w hE; (try dsimp only); go_simp); (try with_reducible rfl)
          try simp only [Act.put, List.setIfInBounds_toArray, List.set_cons_zero, List.set_cons_succ]
          refine wpAnyE_take (i := 6) (oi := { dst := some 35, op := Op.binOp BinOp.eql 3 (Operand.tmp 34) (Operand.const (Value.int IntKind.i64 1)) 3, type := 4, pos := "filter.go:298", after := #[{ on := 5, ground := Ground.data }, { on := 3, ground := Ground.guard }], guard := some (3, true) }) (v := ?_) rfl (by kernel_rfl) (by kernel_rfl) (by kernel_rfl) (by kernel_rfl) (fun _ _ _ h => h) (Or.inl ⟨by rfl, ?_⟩) ?_
          rotate_left
          · (intro w hE; (try dsimp only); go_simp); (try with_reducible rfl)
          try simp only [Act.put, List.setIfInBounds_toArray, List.set_cons_zero, List.set_cons_succ]
          refine wpAnyE_take (i := 7) (oi := { dst := some 36, op := Op.move (Operand.tmp 35), type := 4, pos := "filter.go:298", after := #[{ on := 6, ground := Ground.data }, { on := 3, ground := Ground.chain }, { on := 3, ground := Ground.guard }], guard := some (3, true) }) (v := ?_) rfl (by kernel_rfl) (by kernel_rfl) (by kernel_rfl) (by kernel_rfl) (fun _ _ _ h => h) (Or.inl ⟨by rfl, ?_⟩) ?_
          rotate_left
          · (intro w hE; (try dsimp only); go_simp); (try with_reducible rfl)
          try simp only [Act.put, List.setIfInBounds_toArray, List.set_cons_zero, List.set_cons_succ]
          refine wpAnyE_take (i := 8) (oi := { dst := some 37, op := Op.move (Operand.tmp 0), type := 9, pos := "filter.go:298", after := #[{ on := 7, ground := Ground.guard }, { on := 13, ground := Ground.gcOnly Departure.lateStores }], guard := some (7, false) }) (v := ?_) rfl (by kernel_rfl) (by kernel_rfl) (by kernel_rfl) (by kernel_rfl) (fun _ _ _ h => h) (Or.inl ⟨by rfl, ?_⟩) ?_
          rotate_left
          · (intro w hE; (try dsimp only); go_simp); (try with_reducible rfl)
          try simp only [Act.put, List.setIfInBounds_toArray, List.set_cons_zero, List.set_cons_succ]
          refine wpAnyE_take (i := 9) (oi := { dst := some 38, op := Op.index 9 (Operand.tmp 37) (Operand.const (Value.int IntKind.i64 0)), type := 5, pos := "filter.go:298", after := #[{ on := 8, ground := Ground.data }, { on := 7, ground := Ground.guard }, { on := 13, ground := Ground.gcOnly Departure.lateStores }], guard := some (7, false) }) (v := ?_) rfl (by kernel_rfl) (by kernel_rfl) (by kernel_rfl) (by kernel_rfl) (fun _ _ _ h => h) (Or.inl ⟨by rfl, ?_⟩) ?_
          rotate_left
          · (intro w hE; (try dsimp only); go_simp); (try with_reducible rfl)
          try simp only [Act.put, List.setIfInBounds_toArray, List.set_cons_zero, List.set_cons_succ]
          refine wpAnyE_take (i := 10) (oi := { dst := some 39, op := Op.binOp BinOp.neq 5 (Operand.tmp 38) (Operand.const (Value.int IntKind.u8 48)) 5, type := 4, pos := "filter.go:298", after := #[{ on := 9, ground := Ground.data }, { on := 7, ground := Ground.guard }, { on := 13, ground := Ground.gcOnly Departure.lateStores }], guard := some (7, false) }) (v := ?_) rfl (by kernel_rfl) (by kernel_rfl) (by kernel_rfl) (by kernel_rfl) (fun _ _ _ h => h) (Or.inl ⟨by rfl, ?_⟩) ?_
          rotate_left
          · (intro w hE; (try dsimp only); go_simp); (try with_reducible rfl)
          try simp only [Act.put, List.setIfInBounds_toArray, List.set_cons_zero, List.set_cons_succ]
          refine wpAnyE_take (i := 11) (oi := { dst := some 40, op := Op.pick (Operand.tmp 36) (Operand.const (Value.bool true)) (Operand.tmp 39), type := 4, pos := "filter.go:298", after := #[{ on := 7, ground := Ground.data }, { on := 10, ground := Ground.data }, { on := 3, ground := Ground.guard }, { on := 13, ground := Ground.gcOnly Departure.lateStores }], guard := some (3, true) }) (v := ?_) rfl (by kernel_rfl) (by kernel_rfl) (by kernel_rfl) (by kernel_rfl) (fun _ _ _ h => h) (Or.inl ⟨by rfl, ?_⟩) ?_
          rotate_left
          · (intro w hE; (try dsimp only); go_simp); (try with_reducible rfl)
          try simp only [Act.put, List.setIfInBounds_toArray, List.set_cons_zero, List.set_cons_succ]
          refine wpAnyE_take (i := 12) (oi := { dst := some 41, op := Op.pick (Operand.tmp 32) (Operand.tmp 40) (Operand.const (Value.bool false)), type := 4, pos := "filter.go:298", after := #[{ on := 3, ground := Ground.data }, { on := 11, ground := Ground.data }, { on := 13, ground := Ground.gcOnly Departure.lateStores }], guard := none }) (v := ?_) rfl (by kernel_rfl) (by kernel_rfl) (by kernel_rfl) (by kernel_rfl) (fun _ _ _ h => h) (Or.inl ⟨by rfl, ?_⟩) ?_
          rotate_left
          · (intro w hE; (try dsimp only); go_simp); (try with_reducible rfl)
          try simp only [Act.put, List.setIfInBounds_toArray, List.set_cons_zero, List.set_cons_succ]
          refine wpAnyE_take (i := 13) (oi := { dst := some 2, op := Op.assign (Operand.tmp 29), type := 3, pos := "filter.go:298", after := #[{ on := 0, ground := Ground.data }, { on := 7, ground := Ground.chain }, { on := 0, ground := Ground.phase }, { on := 1, ground := Ground.textOnly Departure.lateStores }, { on := 2, ground := Ground.textOnly Departure.lateStores }, { on := 3, ground := Ground.textOnly Departure.lateStores }, { on := 4, ground := Ground.textOnly Departure.lateStores }, { on := 5, ground := Ground.textOnly Departure.lateStoresUnsure }, { on := 6, ground := Ground.textOnly Departure.lateStores }, { on := 7, ground := Ground.textOnly Departure.lateStores }, { on := 8, ground := Ground.textOnly Departure.lateStores }, { on := 9, ground := Ground.textOnly Departure.lateStores }, { on := 10, ground := Ground.textOnly Departure.lateStores }, { on := 11, ground := Ground.textOnly Departure.lateStores }, { on := 12, ground := Ground.textOnly Departure.lateStores }], guard := none }) (v := ?_) rfl (by kernel_rfl) (by kernel_rfl) (by kernel_rfl) (by kernel_rfl) (fun _ _ _ h => h) (Or.inl ⟨by rfl, ?_⟩) ?_
          rotate_left
          · (intro w hE; (try dsimp only); go_simp); (try with_reducible rfl)
          try simp only [Act.put, List.setIfInBounds_toArray, List.set_cons_zero, List.set_cons_succ]
          refine wpAnyE_take (i := 14) (oi := { dst := some 3, op := Op.assign (Operand.tmp 41), type := 4, pos := "filter.go:298", after := #[{ on := 12, ground := Ground.data }, { on := 13, ground := Ground.chain }, { on := 0, ground := Ground.phase }, { on := 1, ground := Ground.phase }, { on := 2, ground := Ground.phase }, { on := 3, ground := Ground.phase }, { on := 4, ground := Ground.phase }, { on := 5, ground := Ground.phase }, { on := 6, ground := Ground.phase }, { on := 7, ground := Ground.phase }, { on := 8, ground := Ground.phase }, { on := 9, ground := Ground.phase }, { on := 10, ground := Ground.phase }, { on := 11, ground := Ground.phase }, { on := 12, ground := Ground.phase }, { on := 13, ground := Ground.phase }], guard := none }) (v := ?_) rfl (by kernel_rfl) (by kernel_rfl) (by kernel_rfl) (by kernel_rfl) (fun _ _ _ h => h) (Or.inl ⟨by rfl, ?_⟩) ?_
          rotate_left
          · (intro w hE; (try dsimp only); go_simp); (try with_reducible rfl)
          try simp only [Act.put, List.setIfInBounds_toArray, List.set_cons_zero, List.set_cons_succ]
          refine wpAnyE_done (by kernel_rfl) (fun wy1 hE => ?_) _
          have hbz1 := bthen hbz hE
          clear hE
          go_wp2_with fail
          go_ret2
          rw [HR.out]
          exact ⟨⟨_, rfl, fun h => by cases h⟩, by exact hbz1⟩
        · have HR := Lib.hid (HE.out (.inr h48))
          have d4 : ((L[0]?.getD 0).toNat : Int) ≠ 48 := fun h => h48 (UInt8.toNat.inj (by rw [show (48 : UInt8).toNat = 48 from rfl]; omega))
          generalize ((L[0]?.getD 0).toNat : Int) = c0 at e0 d4
          have d5 : (c0 == 48) = false := by simpa using d4
          have d6 : (c0 != 48) = true := by simpa using d4
          have e0' : ∀ W, Sem.run Tryz.prog (Instr.index 9 (.string s) (.int .i64 0)) W = .ok (.int .u8 c0) W := e0
          clear e0 h48
          go_upto_region 8 with fail
          have hbb := HIB.out k
          obtain ⟨V, hV⟩ : ∃ V, V = w.iter s k := ⟨_, rfl⟩
          rw [← hV] at hbb ⊢
          clear hV
          refine wp_region_E 99 (by kernel_rfl) ?_
          obtain ⟨wz, hwz⟩ : ∃ v, v = V.drew := ⟨_, rfl⟩
          rw [← hwz]
          have hlz : Below V.heap.size V wz := by rw [hwz]; exact (Below.refl _ _).drew
          have hbz := bthen hbb hlz
          clear hwz hlz
          refine wpAnyE_take (i := 0) (oi := { dst := some 29, op := Op.move (Operand.tmp 4), type := 3, pos := "filter.go:298", after := #[], guard := none }) (v := ?_) rfl (by kernel_rfl) (by kernel_rfl) (by kernel_rfl) (by kernel_rfl) (fun _ _ _ h => h) (Or.inl ⟨by rfl, ?_⟩) ?_
          rotate_left
          · (intro w hE; (try dsimp only); go_simp); (try with_reducible rfl)
          try simp only [Act.put, List.setIfInBounds_toArray, List.set_cons_zero, List.set_cons_succ]
          refine wpAnyE_take (i := 1) (oi := { dst := some 30, op := Op.move (Operand.tmp 0), type := 9, pos := "filter.go:298", after := #[], guard := none }) (v := ?_) rfl (by kernel_rfl) (by kernel_rfl) (by kernel_rfl) (by kernel_rfl) (fun _ _ _ h => h) (Or.inl ⟨by rfl, ?_⟩) ?_
          rotate_left
          · (intro w hE; (try dsimp only); go_simp); (try with_reducible rfl)
          try simp only [Act.put, List.setIfInBounds_toArray, List.set_cons_zero, List.set_cons_succ]
          refine wpAnyE_take (i := 2) (oi := { dst := some 31, op := Op.binOp BinOp.neq 9 (Operand.tmp 30) (Operand.const (Value.string { data := #[] })) 9, type := 4, pos := "filter.go:298", after := #[{ on := 1, ground := Ground.data }], guard := none }) (v := ?_) rfl (by kernel_rfl) (by kernel_rfl) (by kernel_rfl) (by kernel_rfl) (fun _ _ _ h => h) (Or.inl ⟨by rfl, ?_⟩) ?_
          rotate_left
          · (intro w hE; (try dsimp only); go_simp); (try with_reducible rfl)
          try simp only [Act.put, List.setIfInBounds_toArray, List.set_cons_zero, List.set_cons_succ]
          refine wpAnyE_take (i := 3) (oi := { dst := some 32, op := Op.move (Operand.tmp 31), type := 4, pos := "filter.go:298", after := #[{ on := 2, ground := Ground.data }], guard := none }) (v := ?_) rfl (by kernel_rfl) (by kernel_rfl) (by kernel_rfl) (by kernel_rfl) (fun _ _ _ h => h) (Or.inl ⟨by rfl, ?_⟩) ?_
          rotate_left
          · (intro w hE; (try dsimp only); go_simp); (try with_reducible rfl)
          try simp only [Act.put, List.setIfInBounds_toArray, List.set_cons_zero, List.set_cons_succ]
          refine wpAnyE_take (i := 4) (oi := { dst := some 33, op := Op.move (Operand.tmp 0), type := 9, pos := "filter.go:298", after := #[{ on := 3, ground := Ground.guard }], guard := some (3, true) }) (v := ?_) rfl (by kernel_rfl) (by kernel_rfl) (by kernel_rfl) (by kernel_rfl) (fun _ _ _ h => h) (Or.inl ⟨by rfl, ?_⟩) ?_
          rotate_left
          · (intro w hE; (try dsimp only); go_simp); (try with_reducible rfl)
          try simp only [Act.put, List.setIfInBounds_toArray, List.set_cons_zero, List.set_cons_succ]
          refine wpAnyE_take (i := 5) (oi := { dst := some 34, op := Op.call { callee := Callee.builtin Builtin.len, args := #[Operand.tmp 33], argTypes := #[9] }, type := 3, pos := "filter.go:298", after := #[{ on := 4, ground := Ground.data }, { on := 3, ground := Ground.guard }], guard := some (3, true) }) (v := ?_) rfl (by kernel_rfl) (by kernel_rfl) (by kernel_rfl) (by kernel_rfl) (fun _ _ _ h => h) (Or.inl ⟨by rfl, ?_⟩) ?_
          rotate_left
          · (intro w hE; (try dsimp only); go_simp); (try with_reducible rfl)
          try simp only [Act.put, List.setIfInBounds_toArray, List.set_cons_zero, List.set_cons_succ]
          refine wpAnyE_take (i := 6) (oi := { dst := some 35, op := Op.binOp BinOp.eql 3 (Operand.tmp 34) (Operand.const (Value.int IntKind.i64 1)) 3, type := 4, pos := "filter.go:298", after := #[{ on := 5, ground := Ground.data }, { on := 3, ground := Ground.guard }], guard := some (3, true) }) (v := ?_) rfl (by kernel_rfl) (by kernel_rfl) (by kernel_rfl) (by kernel_rfl) (fun _ _ _ h => h) (Or.inl ⟨by rfl, ?_⟩) ?_
          rotate_left
          · (intro w hE; (try dsimp only); go_simp); (try with_reducible rfl)
          try simp only [Act.put, List.setIfInBounds_toArray, List.set_cons_zero, List.set_cons_succ]
          refine wpAnyE_take (i := 7) (oi := { dst := some 36, op := Op.move (Operand.tmp 35), type := 4, pos := "filter.go:298", after := #[{ on := 6, ground := Ground.data }, { on := 3, ground := Ground.chain }, { on := 3, ground := Ground.guard }], guard := some (3, true) }) (v := ?_) rfl (by kernel_rfl) (by kernel_rfl) (by kernel_rfl) (by kernel_rfl) (fun _ _ _ h => h) (Or.inl ⟨by rfl, ?_⟩) ?_
          rotate_left
          · (intro w hE; (try dsimp only); go_simp); (try with_reducible rfl)
          try simp only [Act.put, List.setIfInBounds_toArray, List.set_cons_zero, List.set_cons_succ]
          refine wpAnyE_take (i := 8) (oi := { dst := some 37, op := Op.move (Operand.tmp 0), type := 9, pos := "filter.go:298", after := #[{ on := 7, ground := Ground.guard }, { on := 13, ground := Ground.gcOnly Departure.lateStores }], guard := some (7, false) }) (v := ?_) rfl (by kernel_rfl) (by kernel_rfl) (by kernel_rfl) (by kernel_rfl) (fun _ _ _ h => h) (Or.inl ⟨by rfl, ?_⟩) ?_
          rotate_left
          · (intro w hE; (try dsimp only); go_simp); (try with_reducible rfl)
          try simp only [Act.put, List.setIfInBounds_toArray, List.set_cons_zero, List.set_cons_succ]
          refine wpAnyE_take (i := 9) (oi := { dst := some 38, op := Op.index 9 (Operand.tmp 37) (Operand.const (Value.int IntKind.i64 0)), type := 5, pos := "filter.go:298", after := #[{ on := 8, ground := Ground.data }, { on := 7, ground := Ground.guard }, { on := 13, ground := Ground.gcOnly Departure.lateStores }], guard := some (7, false) }) (v := ?_) rfl (by kernel_rfl) (by kernel_rfl) (by kernel_rfl) (by kernel_rfl) (fun _ _ _ h => h) (Or.inl ⟨by rfl, ?_⟩) ?_
          rotate_left
          · (intro w hE; (try dsimp only); go_simp); (try with_reducible rfl)
          try simp only [Act.put, List.setIfInBounds_toArray, List.set_cons_zero, List.set_cons_succ]
          refine wpAnyE_take (i := 10) (oi := { dst := some 39, op := Op.binOp BinOp.neq 5 (Operand.tmp 38) (Operand.const (Value.int IntKind.u8 48)) 5, type := 4, pos := "filter.go:298", after := #[{ on := 9, ground := Ground.data }, { on := 7, ground := Ground.guard }, { on := 13, ground := Ground.gcOnly Departure.lateStores }], guard := some (7, false) }) (v := ?_) rfl (by kernel_rfl) (by kernel_rfl) (by kernel_rfl) (by kernel_rfl) (fun _ _ _ h => h) (Or.inl ⟨by rfl, ?_⟩) ?_
          rotate_left
          · (intro w hE; (try dsimp only); go_simp); (try with_reducible rfl)
          try simp only [Act.put, List.setIfInBounds_toArray, List.set_cons_zero, List.set_cons_succ]
          refine wpAnyE_take (i := 11) (oi := { dst := some 40, op := Op.pick (Operand.tmp 36) (Operand.const (Value.bool true)) (Operand.tmp 39), type := 4, pos := "filter.go:298", after := #[{ on := 7, ground := Ground.data }, { on := 10, ground := Ground.data }, { on := 3, ground := Ground.guard }, { on := 13, ground := Ground.gcOnly Departure.lateStores }], guard := some (3, true) }) (v := ?_) rfl (by kernel_rfl) (by kernel_rfl) (by kernel_rfl) (by kernel_rfl) (fun _ _ _ h => h) (Or.inl ⟨by rfl, ?_⟩) ?_
          rotate_left
          · (intro w hE; (try dsimp only); go_simp); (try with_reducible rfl)
          try simp only [Act.put, List.setIfInBounds_toArray, List.set_cons_zero, List.set_cons_succ]
          refine wpAnyE_take (i := 12) (oi := { dst := some 41, op := Op.pick (Operand.tmp 32) (Operand.tmp 40) (Operand.const (Value.bool false)), type := 4, pos := "filter.go:298", after := #[{ on := 3, ground := Ground.data }, { on := 11, ground := Ground.data }, { on := 13, ground := Ground.gcOnly Departure.lateStores }], guard := none }) (v := ?_) rfl (by kernel_rfl) (by kernel_rfl) (by kernel_rfl) (by kernel_rfl) (fun _ _ _ h => h) (Or.inl ⟨by rfl, ?_⟩) ?_
          rotate_left
          · (intro w hE; (try dsimp only); go_simp); (try with_reducible rfl)
          try simp only [Act.put, List.setIfInBounds_toArray, List.set_cons_zero, List.set_cons_succ]
          refine wpAnyE_take (i := 13) (oi := { dst := some 2, op := Op.assign (Operand.tmp 29), type := 3, pos := "filter.go:298", after := #[{ on := 0, ground := Ground.data }, { on := 7, ground := Ground.chain }, { on := 0, ground := Ground.phase }, { on := 1, ground := Ground.textOnly Departure.lateStores }, { on := 2, ground := Ground.textOnly Departure.lateStores }, { on := 3, ground := Ground.textOnly Departure.lateStores }, { on := 4, ground := Ground.textOnly Departure.lateStores }, { on := 5, ground := Ground.textOnly Departure.lateStoresUnsure }, { on := 6, ground := Ground.textOnly Departure.lateStores }, { on := 7, ground := Ground.textOnly Departure.lateStores }, { on := 8, ground := Ground.textOnly Departure.lateStores }, { on := 9, ground := Ground.textOnly Departure.lateStores }, { on := 10, ground := Ground.textOnly Departure.lateStores }, { on := 11, ground := Ground.textOnly Departure.lateStores }, { on := 12, ground := Ground.textOnly Departure.lateStores }], guard := none }) (v := ?_) rfl (by kernel_rfl) (by kernel_rfl) (by kernel_rfl) (by kernel_rfl) (fun _ _ _ h => h) (Or.inl ⟨by rfl, ?_⟩) ?_
          rotate_left
          · (intro w hE; (try dsimp only); go_simp); (try with_reducible rfl)
          try simp only [Act.put, List.setIfInBounds_toArray, List.set_cons_zero, List.set_cons_succ]
          refine wpAnyE_take (i := 14) (oi := { dst := some 3, op := Op.assign (Operand.tmp 41), type := 4, pos := "filter.go:298", after := #[{ on := 12, ground := Ground.data }, { on := 13, ground := Ground.chain }, { on := 0, ground := Ground.phase }, { on := 1, ground := Ground.phase }, { on := 2, ground := Ground.phase }, { on := 3, ground := Ground.phase }, { on := 4, ground := Ground.phase }, { on := 5, ground := Ground.phase }, { on := 6, ground := Ground.phase }, { on := 7, ground := Ground.phase }, { on := 8, ground := Ground.phase }, { on := 9, ground := Ground.phase }, { on := 10, ground := Ground.phase }, { on := 11, ground := Ground.phase }, { on := 12, ground := Ground.phase }, { on := 13, ground := Ground.phase }], guard := none }) (v := ?_) rfl (by kernel_rfl) (by kernel_rfl) (by kernel_rfl) (by kernel_rfl) (fun _ _ _ h => h) (Or.inl ⟨by rfl, ?_⟩) ?_
          rotate_left
          · (intro w hE; (try dsimp only); go_simp); (try with_reducible rfl)
          try simp only [Act.put, List.setIfInBounds_toArray, List.set_cons_zero, List.set_cons_succ]
          refine wpAnyE_done (by kernel_rfl) (fun wy1 hE => ?_) _
          have hbz1 := bthen hbz hE
          clear hE
          go_wp2_with fail
          go_ret2
          rw [HR.out]
          exact ⟨⟨_, rfl, fun h => rfl⟩, by exact hbz1⟩
end

section
set_option linter.unusedSimpArgs false
set_option linter.unusedVariables false
open Go.RowKit

abbrev strV (p : List UInt8) : Value := .string ⟨p.toArray⟩
/-- a row of texts of the call's own. -/
def OwnS (base : Nat) (W : World) (v : Value) (ps : List (List UInt8)) : Prop := W.ownsRow base 9 1 v ps.length (ps.map strV)
theorem OwnS.carry {base : Nat} {W W' : World} {v : Value} {ps : List (List UInt8)} (h : OwnS base W v ps) (hb : Below W.heap.size W W') : OwnS base W' v ps := own_below h hb
theorem OwnS.vals {base : Nat} {W : World} {v : Value} {ps : List (List UInt8)} (h : OwnS base W v ps) : Vals W v (ps.map strV) :=
  Vals.of_own (us := ps.map strV) (v := v) (w := W) (base := base) (e := 9) (by rw [List.length_map]; exact h)
theorem baEq {a b : ByteArray} (h : a.data.toList = b.data.toList) : a = b := by
  obtain ⟨⟨x⟩⟩ := a
  obtain ⟨⟨y⟩⟩ := b
  simp only at h
  rw [h]
theorem data_append (a b : ByteArray) : (a ++ b).data.toList = a.data.toList ++ b.data.toList := by
  rw [ByteArray.data_append, Array.toList_append]
theorem pieceAt (s : ByteArray) (k : Nat) (hk : k < s.size) : (s.extract k (k + 1)).data.toList = [s.data.toList[k]?.getD 0] := by
  have hk' : k < s.data.toList.length := by rw [data_len]; exact hk
  rw [ByteArray.data_extract, Array.toList_extract, List.getElem?_eq_getElem hk', List.extract_eq_take_drop, show k + 1 - k = 1 by omega, List.drop_eq_getElem_cons hk']
  rfl
theorem growAt (s : ByteArray) (k : Nat) (hk : k < s.size) (p : List UInt8) : (⟨p.toArray⟩ : ByteArray) ++ s.extract k (k + 1) = ⟨(p ++ [s.data.toList[k]?.getD 0]).toArray⟩ := by
  apply baEq
  rw [data_append, pieceAt s k hk]
theorem splitC_len (c : UInt8) : ∀ (l p : List UInt8), p ∈ splitC c l → p.length ≤ l.length
  | [], p, h => by
    simp only [splitC, List.mem_singleton] at h
    rw [h]; simp
  | x :: t, p, h => by
    have ih := splitC_len c t
    rw [splitC] at h
    by_cases hx : x = c
    · rw [if_pos hx] at h
      rcases List.mem_cons.1 h with rfl | h
      · simp
      · have := ih p h
        rw [List.length_cons]; omega
    · rw [if_neg hx] at h
      cases hs : splitC c t with
      | nil => exact absurd hs (splitC_ne c t)
      | cons q qs =>
        rw [hs] at h ih
        rcases List.mem_cons.1 h with rfl | h
        · have := ih q (List.mem_cons_self ..)
          rw [List.length_cons, List.length_cons]; omega
        · have := ih p (List.mem_cons_of_mem _ h)
          rw [List.length_cons]; omega
theorem catS2 (T : TypeId) (x y : ByteArray) (W : World) (h : x.size + y.size ≤ 1000000000) : Sem.run Tryz.prog (binOp .add T (.string x) (.string y)) W = .ok (.string (x ++ y)) W := by
  have h2 : ¬ (9223372036854775807 < x.size + y.size) := by omega
  go_simp
theorem mk_size (p : List UInt8) : (⟨p.toArray⟩ : ByteArray).size = p.length := by simp [ByteArray.size]
theorem OwnS.set {base g cp : Nat} {W : World} {q : List (List UInt8)} {p : List UInt8} (h : OwnS base W (.slice (some ⟨g, 0, none⟩) (q.length + 1) cp) (q ++ [p])) (r : List UInt8) :
    OwnS base (W.setCell ⟨g, q.length, none⟩ (strV r)) (.slice (some ⟨g, 0, none⟩) (q.length + 1) cp) (q ++ [r]) := by
  unfold OwnS at h ⊢
  have h1 : (q ++ [p]).length = q.length + 1 := by simp
  have h2 : (q ++ [r]).length = q.length + 1 := by simp
  rw [h1] at h
  rw [h2]
  have := (h.stored q.length (strV r)).1
  rw [List.map_append] at this ⊢
  simpa using this
theorem concat_of_ne {α : Type} {l : List α} (h : l ≠ []) : ∃ q p, l = q ++ [p] := ⟨l.dropLast, l.getLast h, (List.dropLast_concat_getLast h).symm⟩

set_option maxRecDepth 100000 in
set_option maxHeartbeats 4000000 in
theorem Split_any (s : ByteArray) (c : UInt8) (w : World) (hs : s.size ≤ 1000000) :
    Calls Tryz.prog 38 #[.string s, .int .u8 (c.toNat : Int)] w fun e w' => (∃ u, e = .returned u ∧ OwnS w.heap.size w' u (splitC c s.data.toList)) ∧ Below w.heap.size w w' := by
  have HL := Lib.hid (data_len s)
  have hix := fun (k : Nat) (hk : k < s.size) W => idxS 9 Tryz.underlying9 s k hk W
  have hgr := fun (k : Nat) (hk : k < s.size) p => growAt s k hk p
  obtain ⟨L, hL⟩ : ∃ L, L = s.data.toList := ⟨_, rfl⟩
  rw [← hL] at HL hix hgr ⊢
  have HIX := Lib.hid hix
  have HGR := Lib.hid hgr
  clear hL hix hgr
  obtain ⟨n, hn⟩ : ∃ n, n = s.size := ⟨_, rfl⟩
  have hn' : s.size = n := hn.symm
  rw [hn'] at HL HIX HGR hs
  clear hn
  obtain ⟨i0, hi, hz0, hz1, hz2⟩ := info_parts Tryz.infoString
  have HC := Lib.hid (show ∀ b : UInt8, (b.toNat : Int) = (c.toNat : Int) → b = c from fun b h => UInt8.toNat.inj (by omega))
  go_enter Tryz.func38, Tryz.ntmps38
  go_wp2
  have hx := below_new w (Obj.cells #[Value.string ⟨#[]⟩] 9)
  have ho : OwnS w.heap.size (w.alloc (Obj.cells #[Value.string ⟨#[]⟩] 9)) (.slice (some ⟨w.heap.size, 0, none⟩) 1 1) (splitC c (L.take 0)) := World.ownsRow_lit w #[Value.string ⟨#[]⟩] 1 (Nat.le_refl _) (by unfold maxLen; omega) rfl
  go_loopw [5, 6] (fun v i wr => ∃ k : Nat, k ≤ n ∧ i = .int .i64 k ∧ OwnS w.heap.size wr v (splitC c (L.take k)) ∧ Below w.heap.size w wr) (fun _ i _ => n - (intOf i).toNat)
  case atStart => exact ⟨0, by omega, rfl, ho, hx⟩
  case round =>
    clear hx ho
    obtain ⟨k, hk, rfl, hown, hx⟩ := hrel
    by_cases hlt : k < n
    · have e1 := HIX.out k hlt
      have HT := Lib.hid (take_snoc L k (by rw [HL.out]; exact hlt))
      have HG := Lib.hid (HGR.out k hlt)
      have HLN := Lib.hid (splitC_length c (L.take k))
      have HCN := Lib.hid (show (L.take k).count c ≤ k from Nat.le_trans List.count_le_length (by rw [List.length_take]; omega))
      generalize L[k]?.getD 0 = b at e1 HT HG
      have HSN := Lib.hid (splitC_snoc c b (L.take k))
      have HNE := Lib.hid (splitC_ne c (L.take k))
      obtain ⟨ps, hps⟩ : ∃ ps, ps = splitC c (L.take k) := ⟨_, rfl⟩
      rw [← hps] at HLN HSN HNE hown
      clear hps
      have hpl : ps.length ≤ 1000001 := by have := HLN.out; have := HCN.out; omega
      by_cases hb : b = c
      · subst hb
        have HNX : OwnS w.heap.size = OwnS w.heap.size := rfl
        clear HNX
        go_wp2_with (at_builtin; refine wpList_append_own _ rfl _ _ 85 rfl w.heap.size 9 i0 (.string ⟨#[]⟩) 1 16 Tryz.underlying85 hi hz0 hz1 hz2 rfl (by decide) _ _ _ rfl (hown.alloc _) ⟨wr.heap.size, 0, none⟩ 1 1 [.string ⟨#[]⟩] rfl rfl (cell_one_new _ _ _) (by simp [Value.oneCell']) (by unfold maxLen; omega) (by omega) (by have := hx.size; simp; omega) ?_; intro v' w1 hown' hgrow hfrozen)
        have hx' := below_own hx hown hgrow
        have hown2 : OwnS w.heap.size w1 v' (splitC b (L.take (k + 1))) := by
          rw [HT.out, HSN.out, if_pos rfl]
          unfold OwnS
          rw [List.length_append, List.map_append]
          exact hown'
        clear hown hown' hgrow hfrozen hx
        go_wp2
        go_roundw
        case rel => exact ⟨k + 1, by omega, by go_num, hown2, hx'⟩
        case measure => simp [intOf]; omega
      · have d0 : ((b.toNat : Int) == (c.toNat : Int)) = false := by
          rw [beq_eq_false_iff_ne]; exact fun h => hb (HC.out b h)
        have d1 : (b.toNat : Int) ≠ (c.toNat : Int) := fun h => hb (HC.out b h)
        obtain ⟨q, p, rfl⟩ := concat_of_ne HNE.out
        have HSN2 := Lib.hid (show splitC c (L.take (k + 1)) = q ++ [p ++ [b]] by rw [HT.out, HSN.out, if_neg hb, growLast_concat])
        have hg := HG.out p
        clear hb
        have HLN2 := Lib.hid (show (q ++ [p]).length = q.length + 1 by simp)
        obtain ⟨g, cp, hv⟩ : ∃ g cp, u5 = .slice (some ⟨g, 0, none⟩) (q.length + 1) cp := ownsRow_succ (by unfold OwnS at hown; rw [HLN2.out] at hown; exact hown)
        subst hv
        have hown0 : wr.ownsRow w.heap.size 9 1 (.slice (some ⟨g, 0, none⟩) (q.length + 1) cp) (q.length + 1) ((q ++ [p]).map strV) := by unfold OwnS at hown; rw [HLN2.out] at hown; exact hown
        have hge : w.heap.size ≤ g := (hown0.lt g rfl).1
        have hql : q.length ≤ 1000000 := by have := HLN2.out; omega
        have c0 : wr.cell? ⟨g, q.length, none⟩ = some (.string ⟨p.toArray⟩) := by rw [hown0.cellAt q.length (by omega)]; simp
        have v0 : IntKind.i64.wrap (((q.length + 1 : Nat) : Int) - 1) = (q.length : Int) := (IntWalk.i64_in _ (by omega)).trans (by omega)
        have v2 : IntKind.i64.wrap (q.length : Int) = (q.length : Int) := IntWalk.i64_in _ (by omega)
        have v1 : IntKind.i64.wrap ((k : Int) + 1) = ((k + 1 : Nat) : Int) := (IntWalk.i64_in _ (by omega)).trans (by omega)
        have d3 : (q.length : Int) < (q.length : Int) + 1 := by omega
        have d4 : (k : Int) ≤ (k : Int) + 1 := by omega
        have d5 : (k : Int) + 1 ≤ (n : Int) := by omega
        have d6 : 0 ≤ (k : Int) := by omega
        obtain ⟨z, hz⟩ : ∃ z : ByteArray, z = ⟨(p ++ [b]).toArray⟩ := ⟨_, rfl⟩
        rw [← hz] at hg
        have hpz : p.length ≤ 1000000 := by
          have h1 := splitC_len c (L.take (k + 1)) (p ++ [b]) (by rw [HSN2.out]; exact List.mem_append_right _ (List.mem_singleton.2 rfl))
          rw [List.length_append, List.length_singleton, List.length_take] at h1
          omega
        have hcat : ∀ W, Sem.run Tryz.prog (binOp .add 9 (.string ⟨p.toArray⟩) (.string (s.extract k (k + 1)))) W = .ok (.string z) W := fun W => by
          have h3 : (s.extract k (k + 1)).size ≤ 1 := by rw [ByteArray.size_extract]; omega
          rw [← hg]
          exact catS2 _ _ _ _ (by rw [mk_size]; omega)
        have HZ := Lib.hid hz
        clear hz hg hown0 hpz
        go_upto_region 7 with fail
        refine wp_region_E 17 (by kernel_rfl) ?_
        obtain ⟨wz, hwz⟩ : ∃ v, v = wr.drew := ⟨_, rfl⟩
        rw [← hwz]
        have hlz : Below wr.heap.size wr wz := by rw [hwz]; exact (Below.refl _ _).drew
        have hbz := bthen hx hlz
        have c0 := cellb c0 hlz
        have hown := hown.carry hlz
        clear hwz hlz
        refine wpAnyE_take (i := 0) (oi := { dst := some 22, op := Op.move (Operand.tmp 5), type := 85, pos := "words.go:56", after := #[], guard := none }) (v := ?_) rfl (by kernel_rfl) (by kernel_rfl) (by kernel_rfl) (by kernel_rfl) (fun _ _ _ h => h) (Or.inl ⟨by rfl, ?_⟩) ?_
        rotate_left
        · (intro w hE; have c0 := cellb c0 hE; (try dsimp only); go_simp); (try with_reducible rfl)
        try simp only [Act.put, List.setIfInBounds_toArray, List.set_cons_zero, List.set_cons_succ]
        refine wpAnyE_take (i := 1) (oi := { dst := some 23, op := Op.move (Operand.tmp 5), type := 85, pos := "words.go:56", after := #[], guard := none }) (v := ?_) rfl (by kernel_rfl) (by kernel_rfl) (by kernel_rfl) (by kernel_rfl) (fun _ _ _ h => h) (Or.inl ⟨by rfl, ?_⟩) ?_
        rotate_left
        · (intro w hE; have c0 := cellb c0 hE; (try dsimp only); go_simp); (try with_reducible rfl)
        try simp only [Act.put, List.setIfInBounds_toArray, List.set_cons_zero, List.set_cons_succ]
        refine wpAnyE_take (i := 2) (oi := { dst := some 24, op := Op.call { callee := Callee.builtin Builtin.len, args := #[Operand.tmp 23], argTypes := #[85] }, type := 3, pos := "words.go:56", after := #[{ on := 1, ground := Ground.data }], guard := none }) (v := ?_) rfl (by kernel_rfl) (by kernel_rfl) (by kernel_rfl) (by kernel_rfl) (fun _ _ _ h => h) (Or.inl ⟨by rfl, ?_⟩) ?_
        rotate_left
        · (intro w hE; have c0 := cellb c0 hE; (try dsimp only); go_simp); (try with_reducible rfl)
        try simp only [Act.put, List.setIfInBounds_toArray, List.set_cons_zero, List.set_cons_succ]
        refine wpAnyE_take (i := 3) (oi := { dst := some 25, op := Op.binOp BinOp.sub 3 (Operand.tmp 24) (Operand.const (Value.int IntKind.i64 1)) 3, type := 3, pos := "words.go:56", after := #[{ on := 2, ground := Ground.data }], guard := none }) (v := ?_) rfl (by kernel_rfl) (by kernel_rfl) (by kernel_rfl) (by kernel_rfl) (fun _ _ _ h => h) (Or.inl ⟨by rfl, ?_⟩) ?_
        rotate_left
        · (intro w hE; have c0 := cellb c0 hE; (try dsimp only); go_simp); (try with_reducible rfl)
        try simp only [Act.put, List.setIfInBounds_toArray, List.set_cons_zero, List.set_cons_succ]
        refine wpAnyE_take (i := 4) (oi := { dst := some 26, op := Op.move (Operand.tmp 5), type := 85, pos := "words.go:56", after := #[], guard := none }) (v := ?_) rfl (by kernel_rfl) (by kernel_rfl) (by kernel_rfl) (by kernel_rfl) (fun _ _ _ h => h) (Or.inl ⟨by rfl, ?_⟩) ?_
        rotate_left
        · (intro w hE; have c0 := cellb c0 hE; (try dsimp only); go_simp); (try with_reducible rfl)
        try simp only [Act.put, List.setIfInBounds_toArray, List.set_cons_zero, List.set_cons_succ]
        refine wpAnyE_take (i := 5) (oi := { dst := some 27, op := Op.move (Operand.tmp 5), type := 85, pos := "words.go:56", after := #[], guard := none }) (v := ?_) rfl (by kernel_rfl) (by kernel_rfl) (by kernel_rfl) (by kernel_rfl) (fun _ _ _ h => h) (Or.inl ⟨by rfl, ?_⟩) ?_
        rotate_left
        · (intro w hE; have c0 := cellb c0 hE; (try dsimp only); go_simp); (try with_reducible rfl)
        try simp only [Act.put, List.setIfInBounds_toArray, List.set_cons_zero, List.set_cons_succ]
        refine wpAnyE_take (i := 6) (oi := { dst := some 28, op := Op.call { callee := Callee.builtin Builtin.len, args := #[Operand.tmp 27], argTypes := #[85] }, type := 3, pos := "words.go:56", after := #[{ on := 5, ground := Ground.data }], guard := none }) (v := ?_) rfl (by kernel_rfl) (by kernel_rfl) (by kernel_rfl) (by kernel_rfl) (fun _ _ _ h => h) (Or.inl ⟨by rfl, ?_⟩) ?_
        rotate_left
        · (intro w hE; have c0 := cellb c0 hE; (try dsimp only); go_simp); (try with_reducible rfl)
        try simp only [Act.put, List.setIfInBounds_toArray, List.set_cons_zero, List.set_cons_succ]
        refine wpAnyE_take (i := 7) (oi := { dst := some 29, op := Op.binOp BinOp.sub 3 (Operand.tmp 28) (Operand.const (Value.int IntKind.i64 1)) 3, type := 3, pos := "words.go:56", after := #[{ on := 6, ground := Ground.data }], guard := none }) (v := ?_) rfl (by kernel_rfl) (by kernel_rfl) (by kernel_rfl) (by kernel_rfl) (fun _ _ _ h => h) (Or.inl ⟨by rfl, ?_⟩) ?_
        rotate_left
        · (intro w hE; have c0 := cellb c0 hE; (try dsimp only); go_simp); (try with_reducible rfl)
        try simp only [Act.put, List.setIfInBounds_toArray, List.set_cons_zero, List.set_cons_succ]
        refine wpAnyE_take (i := 8) (oi := { dst := some 30, op := Op.indexAddr 85 (Operand.tmp 26) (Operand.tmp 29), type := 0, pos := "words.go:56", after := #[{ on := 4, ground := Ground.data }, { on := 7, ground := Ground.data }], guard := none }) (v := ?_) rfl (by kernel_rfl) (by kernel_rfl) (by kernel_rfl) (by kernel_rfl) (fun _ _ _ h => h) (Or.inl ⟨by rfl, ?_⟩) ?_
        rotate_left
        · (intro w hE; have c0 := cellb c0 hE; (try dsimp only); go_simp); (try with_reducible rfl)
        try simp only [Act.put, List.setIfInBounds_toArray, List.set_cons_zero, List.set_cons_succ]
        refine wpAnyE_take (i := 9) (oi := { dst := some 31, op := Op.load 9 (Operand.tmp 30), type := 9, pos := "words.go:56", after := #[{ on := 8, ground := Ground.data }], guard := none }) (v := ?_) rfl (by kernel_rfl) (by kernel_rfl) (by kernel_rfl) (by kernel_rfl) (fun _ _ _ h => h) (Or.inl ⟨by rfl, ?_⟩) ?_
        rotate_left
        · (intro w hE; have c0 := cellb c0 hE; (try dsimp only); go_simp); (try with_reducible rfl)
        try simp only [Act.put, List.setIfInBounds_toArray, List.set_cons_zero, List.set_cons_succ]
        refine wpAnyE_take (i := 10) (oi := { dst := some 32, op := Op.move (Operand.tmp 0), type := 9, pos := "words.go:56", after := #[], guard := none }) (v := ?_) rfl (by kernel_rfl) (by kernel_rfl) (by kernel_rfl) (by kernel_rfl) (fun _ _ _ h => h) (Or.inl ⟨by rfl, ?_⟩) ?_
        rotate_left
        · (intro w hE; have c0 := cellb c0 hE; (try dsimp only); go_simp); (try with_reducible rfl)
        try simp only [Act.put, List.setIfInBounds_toArray, List.set_cons_zero, List.set_cons_succ]
        refine wpAnyE_take (i := 11) (oi := { dst := some 33, op := Op.move (Operand.tmp 6), type := 3, pos := "words.go:56", after := #[], guard := none }) (v := ?_) rfl (by kernel_rfl) (by kernel_rfl) (by kernel_rfl) (by kernel_rfl) (fun _ _ _ h => h) (Or.inl ⟨by rfl, ?_⟩) ?_
        rotate_left
        · (intro w hE; have c0 := cellb c0 hE; (try dsimp only); go_simp); (try with_reducible rfl)
        try simp only [Act.put, List.setIfInBounds_toArray, List.set_cons_zero, List.set_cons_succ]
        refine wpAnyE_take (i := 12) (oi := { dst := some 34, op := Op.move (Operand.tmp 6), type := 3, pos := "words.go:56", after := #[], guard := none }) (v := ?_) rfl (by kernel_rfl) (by kernel_rfl) (by kernel_rfl) (by kernel_rfl) (fun _ _ _ h => h) (Or.inl ⟨by rfl, ?_⟩) ?_
        rotate_left
        · (intro w hE; have c0 := cellb c0 hE; (try dsimp only); go_simp); (try with_reducible rfl)
        try simp only [Act.put, List.setIfInBounds_toArray, List.set_cons_zero, List.set_cons_succ]
        refine wpAnyE_take (i := 13) (oi := { dst := some 35, op := Op.binOp BinOp.add 3 (Operand.tmp 34) (Operand.const (Value.int IntKind.i64 1)) 3, type := 3, pos := "words.go:56", after := #[{ on := 12, ground := Ground.data }], guard := none }) (v := ?_) rfl (by kernel_rfl) (by kernel_rfl) (by kernel_rfl) (by kernel_rfl) (fun _ _ _ h => h) (Or.inl ⟨by rfl, ?_⟩) ?_
        rotate_left
        · (intro w hE; have c0 := cellb c0 hE; (try dsimp only); go_simp); (try with_reducible rfl)
        try simp only [Act.put, List.setIfInBounds_toArray, List.set_cons_zero, List.set_cons_succ]
        refine wpAnyE_take (i := 14) (oi := { dst := some 36, op := Op.slice 9 (Operand.tmp 32) (some (Operand.tmp 33)) (some (Operand.tmp 35)) none, type := 9, pos := "words.go:56", after := #[{ on := 10, ground := Ground.data }, { on := 11, ground := Ground.data }, { on := 13, ground := Ground.data }], guard := none }) (v := ?_) rfl (by kernel_rfl) (by kernel_rfl) (by kernel_rfl) (by kernel_rfl) (fun _ _ _ h => h) (Or.inl ⟨by rfl, ?_⟩) ?_
        rotate_left
        · (intro w hE; have c0 := cellb c0 hE; (try dsimp only); go_simp); (try with_reducible rfl)
        try simp only [Act.put, List.setIfInBounds_toArray, List.set_cons_zero, List.set_cons_succ]
        refine wpAnyE_take (i := 15) (oi := { dst := some 37, op := Op.binOp BinOp.add 9 (Operand.tmp 31) (Operand.tmp 36) 9, type := 9, pos := "words.go:56", after := #[{ on := 9, ground := Ground.data }, { on := 14, ground := Ground.data }], guard := none }) (v := ?_) rfl (by kernel_rfl) (by kernel_rfl) (by kernel_rfl) (by kernel_rfl) (fun _ _ _ h => h) (Or.inl ⟨by rfl, ?_⟩) ?_
        rotate_left
        · (intro w hE; have c0 := cellb c0 hE; (try dsimp only); refine Eq.trans (exec_add (v := .string z) rfl (hcat w)) ?_); (try with_reducible rfl)
        try simp only [Act.put, List.setIfInBounds_toArray, List.set_cons_zero, List.set_cons_succ]
        refine wpAnyE_take (i := 16) (oi := { dst := some 38, op := Op.indexAddr 85 (Operand.tmp 22) (Operand.tmp 25), type := 0, pos := "words.go:56", after := #[{ on := 0, ground := Ground.data }, { on := 3, ground := Ground.data }, { on := 0, ground := Ground.phase }, { on := 1, ground := Ground.phase }, { on := 2, ground := Ground.phase }, { on := 3, ground := Ground.phase }, { on := 4, ground := Ground.phase }, { on := 5, ground := Ground.phase }, { on := 6, ground := Ground.phase }, { on := 7, ground := Ground.phase }, { on := 8, ground := Ground.phase }, { on := 9, ground := Ground.phase }, { on := 10, ground := Ground.phase }, { on := 11, ground := Ground.phase }, { on := 12, ground := Ground.phase }, { on := 13, ground := Ground.phase }, { on := 14, ground := Ground.phase }, { on := 15, ground := Ground.phase }], guard := none }) (v := ?_) rfl (by kernel_rfl) (by kernel_rfl) (by kernel_rfl) (by kernel_rfl) (fun _ _ _ h => h) (Or.inl ⟨by rfl, ?_⟩) ?_
        rotate_left
        · (intro w hE; have c0 := cellb c0 hE; (try dsimp only); go_simp); (try with_reducible rfl)
        try simp only [Act.put, List.setIfInBounds_toArray, List.set_cons_zero, List.set_cons_succ]
        refine wpAnyE_one (i := 17) (o := { dst := none, op := Op.store 9 (Operand.tmp 38) (Operand.tmp 37), type := 0, pos := "words.go:56", after := #[{ on := 16, ground := Ground.data }, { on := 15, ground := Ground.data }, { on := 0, ground := Ground.phase }, { on := 1, ground := Ground.phase }, { on := 2, ground := Ground.phase }, { on := 3, ground := Ground.phase }, { on := 4, ground := Ground.phase }, { on := 5, ground := Ground.phase }, { on := 6, ground := Ground.phase }, { on := 7, ground := Ground.phase }, { on := 8, ground := Ground.phase }, { on := 9, ground := Ground.phase }, { on := 10, ground := Ground.phase }, { on := 11, ground := Ground.phase }, { on := 12, ground := Ground.phase }, { on := 13, ground := Ground.phase }, { on := 14, ground := Ground.phase }, { on := 15, ground := Ground.phase }], guard := none }) (by kernel_rfl) rfl (fun wy1 hE K hK => ?_)
        have c0 := cellb c0 hE
        have hown := hown.carry hE
        have hbz1 := bthen hbz hE
        clear hE
        have fz : World.frozen? wy1 ⟨g, q.length, none⟩ = false := World.ownsRow.frozenAt (by unfold OwnS at hown; rw [HLN2.out] at hown; exact hown) q.length
        go_simp
        obtain ⟨wx1, hwz⟩ : ∃ v, v = wy1.setCell ⟨g, q.length, none⟩ (.string z) := ⟨_, rfl⟩
        rw [← hwz]
        have hcz1 : Below w.heap.size w wx1 := by rw [hwz]; exact (hbz1).setCell (by exact hge) _
        replace hown : OwnS w.heap.size wx1 (.slice (some ⟨g, 0, none⟩) (q.length + 1) cp) (splitC c (L.take (k + 1))) := by rw [HSN2.out, hwz, HZ.out]; exact OwnS.set hown (p ++ [b])
        clear hwz
        refine hK _ _ (fun h => absurd rfl h) ?_
        clear hK K
        try simp only [Act.put, List.setIfInBounds_toArray, List.set_cons_zero, List.set_cons_succ]
        refine wpAnyE_done (by kernel_rfl) (fun wy2 hE => ?_) _
        have hbz2 := bthen hcz1 hE
        have hown := hown.carry hE
        clear hE
        clear hx
        have hx := hbz2
        obtain ⟨Y1, hY1⟩ : ∃ v, v = wy2 := ⟨_, rfl⟩
        rw [← hY1] at hx hown ⊢
        clear hY1
        go_wp2_with fail
        go_roundw
        case rel => exact ⟨k + 1, by omega, by go_num, hown, hx⟩
        case measure => simp [intOf]; omega
    · obtain rfl : k = n := by omega
      have hta : L.take k = L := List.take_of_length_le (by rw [HL.out]; omega)
      rw [hta] at hown
      clear hta
      go_wp2
      go_ret
      exact ⟨⟨_, rfl, hown⟩, hx⟩
end

section
set_option linter.unusedSimpArgs false
set_option linter.unusedVariables false
open Go.RowKit

/-- what a number taken tells: whether the word is one. -/
def okW (ws : List (List UInt8)) : Bool := match ws with
  | [] => false
  | p :: _ => digOk p

/-- blocks outside S, and all that is no row of cells, stand. -/
structure Keep (S : Nat → Prop) (W W' : World) : Prop where
  os : W'.os = W.os
  tape : W'.tape = W.tape
  output : W'.output = W.output
  size : W.heap.size ≤ W'.heap.size
  same : ∀ (k : Nat) (o : Obj), W.heap[k]? = some o → (¬ S k ∨ o.isCells = false) → W'.heap[k]? = some o
theorem Keep.of_below {S : Nat → Prop} {W W' : World} (h : Below W.heap.size W W') : Keep S W W' := ⟨h.os, h.tape, h.output, h.size, fun k o hk _ => (h.block k (Array.getElem?_eq_some_iff.1 hk).1).trans hk⟩
theorem Keep.refl (S : Nat → Prop) (W : World) : Keep S W W := Keep.of_below (Below.refl _ _)
theorem Keep.trans {S : Nat → Prop} {W W1 W2 : World} (h : Keep S W W1) (k : Keep S W1 W2) : Keep S W W2 :=
  ⟨k.os.trans h.os, k.tape.trans h.tape, k.output.trans h.output, Nat.le_trans h.size k.size, fun j o hj hn => k.same j o (h.same j o hj hn) hn⟩
theorem Keep.mono {S S' : Nat → Prop} {W W1 : World} (h : Keep S W W1) (hs : ∀ k, S k → S' k) : Keep S' W W1 :=
  ⟨h.os, h.tape, h.output, h.size, fun j o hj hn => h.same j o hj (hn.imp (fun h e => h (hs _ e)) id)⟩
theorem Keep.setCell {S : Nat → Prop} {W W1 : World} (h : Keep S W W1) {B o : Nat} {T : TypeId} {vs : List Value} (hB : Blk W1 B T vs) (hS : S B) (x : Value) : Keep S W (W1.setCell ⟨B, o, none⟩ x) :=
  ⟨h.os, h.tape, h.output, by simpa using h.size, fun j ob hj hn => by
    have hj1 := h.same j ob hj hn
    refine (Below.heap_setCell _ _ _ _ (fun e => ?_)).trans hj1
    obtain rfl : j = B := by simpa using e
    rcases hn with hn | hn
    · exact hn hS
    · have := hB.symm.trans hj1
      cases this
      cases hn⟩
theorem Keep.grown {S : Nat → Prop} {W W1 W2 : World} (h : Keep S W W1) {row : Option Nat} (hg : W1.grownBy W2 row) (hr : ∀ r, row = some r → S r ∧ ∀ o, W1.heap[r]? = some o → o.isCells = true) : Keep S W W2 :=
  h.trans ⟨hg.1, hg.2, hg.3, hg.size, fun j o hj hn => by
    refine (hg.block j (Array.getElem?_eq_some_iff.1 hj).1 (fun e => ?_)).trans hj
    obtain ⟨h1, h2⟩ := hr j e.symm
    rcases hn with hn | hn
    · exact hn h1
    · have := h2 o hj
      rw [hn] at this; cases this⟩
theorem Keep.below {S : Nat → Prop} {W W1 : World} (h : Keep S W W1) {base : Nat} (hb : ∀ k, k < base → ¬ S k) (hs : base ≤ W.heap.size) : Below base W W1 := ⟨h.os, h.tape, h.output, h.size, fun k hk => by
  have hlt : k < W.heap.size := by omega
  have he : W.heap[k]? = some W.heap[k] := Array.getElem?_eq_getElem hlt
  rw [he]
  exact h.same k _ he (.inl (hb k hk))⟩
theorem Keep.from {S : Nat → Prop} {W W1 : World} (h : Keep S W W1) (B : Nat) : KeepsFrom B W W1 := ⟨h.size, fun k o _ hk ho => h.same k o hk (.inr ho)⟩
theorem Keep.blk {S : Nat → Prop} {W W1 : World} (h : Keep S W W1) {F : Nat} {T : TypeId} {vs : List Value} (hF : Blk W F T vs) (hne : ¬ S F) : Blk W1 F T vs := h.same F _ hF (.inl hne)
theorem Keep.own {S : Nat → Prop} {W W1 : World} (h : Keep S W W1) {base e size n : Nat} {v : Value} {xs : List Value} (ho : W.ownsRow base e size v n xs) (hne : ∀ g, v.ownBlock = some g → ¬ S g) : W1.ownsRow base e size v n xs := by
  obtain ⟨h1, h2⟩ := ho
  refine ⟨h1, ?_⟩
  rcases h2 with h2 | ⟨g, cap, cur, hv, hg, hh, r⟩
  · exact Or.inl h2
  · exact Or.inr ⟨g, cap, cur, hv, hg, h.same g _ hh (.inl (hne g (by rw [hv]; rfl))), r⟩
def NumPost (B : Nat) (wr : Bool) (ws : List (List UInt8)) (W : World) (e : Ending) (W' : World) : Prop :=
  ∃ (n : Int) (u : Value), e = .returned (.int .i64 n) ∧ (okW ws = true → n = valD (ws[0]?.getD [])) ∧ Blk W' B 166 [u, .bool (wr || !okW ws)] ∧ Vals W' u ((ws.drop 1).map strV) ∧ (∀ b off c, u = .slice (some ⟨b, off, none⟩) (ws.drop 1).length c → b ≠ B) ∧ Keep (fun k => k = B) W W'
theorem Vals.set {W : World} {u : Value} {us : List Value} (h : Vals W u us) {B o : Nat} {x : Value} (hne : ∀ b off c, u = .slice (some ⟨b, off, none⟩) us.length c → b ≠ B) : Vals (W.setCell ⟨B, o, none⟩ x) u us := by
  obtain ⟨a, cp, rfl, hc, hv⟩ := h
  refine ⟨a, cp, rfl, hc, fun h0 => ?_⟩
  obtain ⟨b, off, rfl, hcs⟩ := hv h0
  refine ⟨b, off, rfl, fun j y hj => ?_⟩
  rw [World.cell?_setCell_other _ _ _ _ (fun e => hne b off cp rfl (congrArg Addr.block e).symm)]
  exact hcs j y hj
theorem Vals.tail {W : World} {b off cp n : Nat} {x : Value} {us : List Value} (h : Vals W (.slice (some ⟨b, off, none⟩) (n + 1) cp) (x :: us)) (hn : us.length = n) : Vals W (.slice (some ⟨b, off + 1, none⟩) n (cp - 1)) us := by
  obtain ⟨a, c, he, hc, hv⟩ := h
  have hc' : n + 1 ≤ cp := by
    simp only [Value.slice.injEq] at he
    obtain ⟨_, h1, h2⟩ := he
    rw [h1, h2]; exact hc
  obtain ⟨b', off', rfl, hcs⟩ := hv (by simp)
  simp only [Value.slice.injEq, Option.some.injEq, Addr.mk.injEq, and_true] at he
  obtain ⟨⟨rfl, rfl⟩, _, rfl⟩ := he
  refine ⟨some ⟨b, off + 1, none⟩, cp - 1, by rw [hn], by omega, fun _ => ⟨b, off + 1, rfl, fun j y hj => ?_⟩⟩
  rw [show off + 1 + j = off + (j + 1) by omega]
  exact hcs (j + 1) y hj
set_option maxRecDepth 100000 in
set_option maxHeartbeats 4000000 in
theorem number_any (B : Nat) (v : Value) (wr : Bool) (ws : List (List UInt8)) (W : World) (hB : Blk W B 166 [v, .bool wr]) (hv : Vals W v (ws.map strV)) (hl : ws.length ≤ 1000000) (hw : ∀ p ∈ ws, p.length ≤ 1000000) (hne : ∀ b off c, v = .slice (some ⟨b, off, none⟩) ws.length c → b ≠ B) :
    Calls Tryz.prog 143 #[.pointer (some ⟨B, 0, none⟩)] W (NumPost B wr ws W) := by
  have c0 := hB.cell (j := 0) (v := v) rfl
  have c1 := hB.cell (j := 1) (v := .bool wr) rfl
  have f0 := hB.frozen 0
  have f1 := hB.frozen 1
  match ws, hv, hl, hw, hne with
  | [], hv, _, _, hne =>
    obtain ⟨a, cp, hva, _, hvv⟩ := hv
    simp only [List.map_nil, List.length_nil] at hva
    subst hva
    go_enter Tryz.func143, Tryz.ntmps143
    go_wp2
    go_ret
    refine ⟨_, _, rfl, (fun h => by cases h), ?_, ⟨a, cp, rfl, Nat.zero_le _, fun h => absurd h (by simp)⟩, (fun b off c e => hne b off c (by simpa using e)), Keep.setCell (S := fun k => k = B) (Keep.refl _ W) hB rfl _⟩
    have h := hB.set 1 (.bool true)
    simpa [okW] using h
  | p :: ws, hv, hl, hw, hne =>
    obtain ⟨b, off, cp, rfl, hcs⟩ := hv.head (by simp)
    have w0 : W.cell? ⟨b, off, none⟩ = some (.string ⟨p.toArray⟩) := hcs 0 (strV p) rfl
    go_enter Tryz.func143, Tryz.ntmps143
    have hI := integer_any ⟨p.toArray⟩ W (by rw [mk_size]; exact hw p (List.mem_cons_self ..))
    simp only [List.length_map, List.length_cons] at c0 hB hv
    have HV := Lib.hid hv
    have HCS := Lib.hid hcs
    have HB := Lib.hid hB
    clear hv hcs hB
    go_wp2_with fail
    refine hI.mono ?_
    rintro e W1 ⟨⟨n, rfl, hn⟩, hb⟩
    have i1 := HB.out.carry hb
    have c0 := i1.cell (j := 0) (v := .slice (some ⟨b, off, none⟩) (ws.length + 1) cp) rfl
    have c1 := i1.cell (j := 1) (v := .bool wr) rfl
    have f0 := i1.frozen 0
    have f1 := i1.frozen 1
    have HN := Lib.hid hn
    clear hn hI
    obtain ⟨ok, hok⟩ : ∃ ok, ok = digOk (⟨p.toArray⟩ : ByteArray).data.toList := ⟨_, rfl⟩
    rw [← hok] at HN ⊢
    have HOK := Lib.hid hok
    clear hok
    have HN2 := Lib.hid (fun h : okW (p :: ws) = true => HN.out (HOK.out.trans h))
    have hk : okW (p :: ws) = ok := HOK.out.symm
    have HK := Lib.hid hk
    clear hk HN HOK
    have hcp : ws.length + 1 ≤ cp := by
      obtain ⟨a', c', e', h1, _⟩ := HV.out
      simp only [Value.slice.injEq] at e'
      rw [e'.2.2]; simpa using h1
    have hnb : b ≠ B := hne b off cp (by simp)
    have HBL := Lib.hid (fun x y => show Keep (fun k => k = B) W ((W1.setCell ⟨B, 0, none⟩ x).setCell ⟨B, 1, none⟩ y) from Keep.setCell (S := fun k => k = B) (Keep.setCell (S := fun k => k = B) (Keep.of_below hb) i1 rfl x) (i1.set 0 x) rfl y)
    have HNB := Lib.hid hnb
    by_cases hc1 : cp = 1
    · obtain rfl : ws = [] := List.length_eq_zero_iff.1 (by omega)
      subst hc1
      clear hcp HCS HV
      cases wr <;> cases ok
      all_goals go_wp2_with fail
      all_goals go_ret
      all_goals refine ⟨n, _, rfl, HN2.out, ?_, ⟨some ⟨b, off, none⟩, 0, rfl, Nat.zero_le _, fun h => absurd h (by simp)⟩, (fun b' o' c' e => by simp only [Value.slice.injEq, Option.some.injEq, Addr.mk.injEq] at e; rw [← e.1.1]; exact HNB.out), HBL.out _ _⟩
      all_goals rw [HK.out]
      all_goals exact (i1.set 0 _).set 1 _
    · have hv1 : Vals W1 (.slice (some ⟨b, off + 1, none⟩) ws.length (cp - 1)) (ws.map strV) := Vals.tail (HV.out.carry hb) (List.length_map ..)
      have HV1 := Lib.hid (fun x y => (hv1.set (B := B) (o := 0) (x := x) (fun b' o' c' e => by simp only [Value.slice.injEq, Option.some.injEq, Addr.mk.injEq] at e; rw [← e.1.1]; exact hnb)).set (B := B) (o := 1) (x := y) (fun b' o' c' e => by simp only [Value.slice.injEq, Option.some.injEq, Addr.mk.injEq] at e; rw [← e.1.1]; exact hnb))
      have hc2 : cp - 1 ≠ 0 := by omega
      have hc3 : ¬ cp ≤ 1 := by omega
      have HCP := Lib.hid hcp
      clear hv1 HV HCS hcp
      cases wr <;> cases ok
      all_goals go_wp2_with fail
      all_goals go_ret
      all_goals refine ⟨n, _, rfl, HN2.out, ?_, HV1.out _ _, (fun b' o' c' e => by simp only [Value.slice.injEq, Option.some.injEq, Addr.mk.injEq] at e; rw [← e.1.1]; exact HNB.out), HBL.out _ _⟩
      all_goals rw [HK.out]
      all_goals exact (i1.set 0 _).set 1 _
end

end Go.Proofs.YtoihfmndhfnmmaaGreatDoor

/- What a stream of telegrams of which some blocks are wrong tells; plain facts. -/
import Derived.Test.YtjmdnolmaofbiaaDoorThmK
namespace Go.Proofs.YtjmdnolmaofbiaaDoor
set_option linter.unusedSimpArgs false
set_option linter.unusedVariables false

theorem xor8 (y d : Int) (hy : 0 ≤ y ∧ y < 256) (hd : 1 ≤ d ∧ d ≤ 255) : (0 ≤ bits .xor .u8 y d ∧ bits .xor .u8 y d < 256) ∧ y ≠ bits .xor .u8 y d := by
  obtain ⟨Y, rfl⟩ := Int.eq_ofNat_of_zero_le hy.1
  obtain ⟨D, rfl⟩ := Int.eq_ofNat_of_zero_le (show 0 ≤ d by omega)
  have hlt : Y ^^^ D < 2 ^ 8 := Nat.xor_lt_two_pow (by omega) (by omega)
  have hne : Y ≠ Y ^^^ D := fun h => by
    have h1 : Y ^^^ (Y ^^^ D) = Y ^^^ Y := congrArg (Y ^^^ ·) h.symm
    rw [← Nat.xor_assoc, Nat.xor_self, Nat.zero_xor] at h1
    omega
  have e : bits .xor .u8 (Y : Int) (D : Int) = ((Y ^^^ D : Nat) : Int) := by
    show IntKind.u8.wrap ((BitVec.ofInt 8 (Y : Int) ^^^ BitVec.ofInt 8 (D : Int)).toNat : Nat) = _
    have e1 : BitVec.ofInt 8 (Y : Int) = BitVec.ofNat 8 Y := rfl
    have e2 : BitVec.ofInt 8 (D : Int) = BitVec.ofNat 8 D := rfl
    rw [e1, e2, BitVec.toNat_xor, BitVec.toNat_ofNat, BitVec.toNat_ofNat, Nat.mod_eq_of_lt (by omega), Nat.mod_eq_of_lt (by omega)]
    have : IntKind.u8.wrap ((Y ^^^ D : Nat) : Int) = ((Y ^^^ D : Nat) : Int) % 256 := rfl
    rw [this]
    omega
  rw [e]
  refine ⟨by omega, fun h => hne (by omega)⟩

/-- the frame that comes: of a wrong block the byte k is changed. -/
def frX (t : Tg) (b : Bool) (k : Nat) (d : Int) : List Int := if b = true then (frm t).set k (bits .xor .u8 ((frm t).getD k 0) d) else frm t
theorem frX_len (t : Tg) (b : Bool) (k : Nat) (d : Int) : (frX t b k d).length = 16 := by
  unfold frX
  split
  · rw [List.length_set]; rfl
  · rfl
theorem frm_getD (t : Tg) (k : Nat) (hk : k < 16) : 0 ≤ (frm t).getD k 0 ∧ (frm t).getD k 0 < 256 := by
  have h : (frm t).getD k 0 = (frm t)[k]'(by rw [frm_len]; exact hk) := by
    rw [List.getD, List.getElem?_eq_getElem (by rw [frm_len]; exact hk)]; rfl
  rw [h]
  exact frm_byte t _ (List.getElem_mem _)
theorem frX_byte {t : Tg} {b : Bool} {k : Nat} {d : Int} (hk : k < 16) (hd : 1 ≤ d ∧ d ≤ 255) : ByteL (frX t b k d) := by
  unfold frX
  split
  · intro y hy
    rcases List.mem_or_eq_of_mem_set hy with h | h
    · exact frm_byte t y h
    · rw [h]; exact (xor8 _ d (frm_getD t k hk) hd).1
  · exact frm_byte t
theorem frX_ok {t : Tg} {b : Bool} {k : Nat} {d : Int} (ht : TgOk t) (hk : k < 16) (hd : 1 ≤ d ∧ d ≤ 255) : dcOk (frX t b k d) = !b := by
  unfold frX
  cases b with
  | true =>
    rw [if_pos rfl]
    have := xor8 _ d (frm_getD t k hk) hd
    rw [frm_bad t k _ hk this.1 this.2]; rfl
  | false =>
    rw [if_neg (by decide)]
    exact (frm_ok ht).1
theorem frX_tg {t : Tg} {k : Nat} {d : Int} (ht : TgOk t) : dcT (frX t false k d) = t := by
  unfold frX
  rw [if_neg (by decide)]
  exact (frm_ok ht).2
/-- the stream of the first n frames. -/
def codeL (f : Nat → List Int) (n : Nat) : List Int := (List.range n).flatMap f
theorem codeL_succ (f : Nat → List Int) (n : Nat) : codeL f (n + 1) = codeL f n ++ f n := by
  unfold codeL
  rw [List.range_succ, List.flatMap_append]; simp
theorem codeL_len {f : Nat → List Int} (hf : ∀ j, (f j).length = 16) : ∀ n, (codeL f n).length = 16 * n
  | 0 => rfl
  | n + 1 => by rw [codeL_succ, List.length_append, codeL_len hf n, hf]; omega
theorem codeL_byte {f : Nat → List Int} (n : Nat) (hf : ∀ j, ByteL (f j)) : ByteL (codeL f n) := by
  intro b hb
  obtain ⟨j, _, h⟩ := List.mem_flatMap.1 hb
  exact hf j b h
theorem codeL_get {f : Nat → List Int} (hf : ∀ j, (f j).length = 16) : ∀ (n k j : Nat), k < n → j < 16 → (codeL f n)[16 * k + j]? = (f k)[j]?
  | 0, k, j, h, _ => by omega
  | n + 1, k, j, h, hj => by
    rw [codeL_succ]
    by_cases e : k = n
    · subst e
      rw [List.getElem?_append_right (by rw [codeL_len hf]; omega), codeL_len hf, show 16 * k + j - 16 * k = j by omega]
    · rw [List.getElem?_append_left (by rw [codeL_len hf]; omega)]
      exact codeL_get hf n k j (by omega) hj
theorem blkAt_code {f : Nat → List Int} (hf : ∀ j, (f j).length = 16) {n k : Nat} (h : k < n) : blkAt (codeL f n) k = f k := by
  apply List.ext_getElem?
  intro j
  unfold blkAt
  rw [List.getElem?_map]
  by_cases hj : j < 16
  · rw [List.getElem?_range hj, Option.map_some, codeL_get hf n k j h hj]
    rw [List.getElem?_eq_getElem (by rw [hf]; exact hj)]; rfl
  · rw [List.getElem?_eq_none (by simp; omega), List.getElem?_eq_none (by rw [hf]; omega)]; rfl
/-- the blocks that are wrong. -/
def badN (bad : Nat → Bool) (n : Nat) : List Int := ((List.range n).filter bad).map fun (i : Nat) => (i : Int)
theorem badN_succ (bad : Nat → Bool) (n : Nat) : badN bad (n + 1) = badN bad n ++ (if bad n = true then [(n : Int)] else []) := by
  unfold badN
  rw [List.range_succ, List.filter_append, List.map_append]
  by_cases h : bad n = true
  · rw [if_pos h]; simp [h]
  · rw [if_neg h]; simp [h]
theorem filter_eq_of {α : Type} {p q : α → Bool} : ∀ {l : List α}, (∀ x ∈ l, p x = q x) → l.filter p = l.filter q
  | [], _ => rfl
  | a :: l, h => by
    rw [List.filter_cons, List.filter_cons, h a (by simp), filter_eq_of (fun x hx => h x (by simp [hx]))]
section
variable (tele : Nat → Tg) (bad : Nat → Bool) (k : Nat) (d : Int)
def frF : Nat → List Int := fun j => frX (tele j) (bad j) k d
theorem rcT_code (n : Nat) (ht : ∀ j, TgOk (tele j)) (hk : k < 16) (hd : 1 ≤ d ∧ d ≤ 255) : rcTn (codeL (frF tele bad k d) n) n = (cameN (fun i => !bad i) n).map tele := by
  have hf : ∀ j, (frF tele bad k d j).length = 16 := fun j => frX_len _ _ _ _
  have key : ∀ m, m ≤ n → rcTn (codeL (frF tele bad k d) n) m = (cameN (fun i => !bad i) m).map tele := by
    intro m
    induction m with
    | zero => intro _; rfl
    | succ m ih =>
      intro hm
      rw [rcTn_succ, ih (by omega), blkAt_code hf (by omega), came_succ]
      have h1 : dcOk (frF tele bad k d m) = !bad m := frX_ok (ht m) hk hd
      rw [h1]
      cases hb : bad m with
      | true => simp
      | false =>
        have h2 : dcT (frF tele bad k d m) = tele m := by
          unfold frF
          rw [hb]; exact frX_tg (ht m)
        simp [h2]
  exact key n (Nat.le_refl _)
theorem rcB_code (n : Nat) (ht : ∀ j, TgOk (tele j)) (hk : k < 16) (hd : 1 ≤ d ∧ d ≤ 255) : rcBn (codeL (frF tele bad k d) n) n = badN bad n := by
  have hf : ∀ j, (frF tele bad k d j).length = 16 := fun j => frX_len _ _ _ _
  unfold rcBn badN
  congr 1
  refine filter_eq_of fun i hi => ?_
  rw [List.mem_range] at hi
  rw [blkAt_code hf hi, show dcOk (frF tele bad k d i) = !bad i from frX_ok (ht i) hk hd]
  simp
end
/-- how many came, and how many are wrong. -/
theorem came_bad_len (bad : Nat → Bool) : ∀ n, (cameN (fun i => !bad i) n).length + (badN bad n).length = n
  | 0 => rfl
  | n + 1 => by
    have ih := came_bad_len bad n
    rw [came_succ, badN_succ]
    cases h : bad n with
    | true => simp; omega
    | false => simp; omega
theorem hasI_badN (bad : Nat → Bool) (n i : Nat) (h : i < n) : hasI (badN bad n) (i : Int) = bad i := by
  unfold hasI
  rw [List.contains_eq_mem, Bool.eq_iff_iff, decide_eq_true_iff]
  unfold badN
  simp only [List.mem_map, List.mem_filter, List.mem_range]
  constructor
  · rintro ⟨j, ⟨_, hj⟩, e⟩
    have : j = i := by omega
    rw [← this]; exact hj
  · intro hb
    exact ⟨i, ⟨h, hb⟩, rfl⟩
/-- the blocks between the first and the last one that came, of the first j wrong ones. -/
def midB (came : List Nat) (i : Nat) : Bool := match came.head?, came.getLast? with | some a, some b => decide (a < i ∧ i < b) | _, _ => false
def lostN (came : List Nat) (l : List Nat) : List Nat := l.filter (midB came)
theorem gap_range (c0 : Int) (a b : Nat) (h : a < b) (hb : b < a + 1000) : gapL ((c0 + (a : Int)) % 65536) ((c0 + (b : Int)) % 65536) = (List.range' (a + 1) (b - a - 1)).map fun (i : Nat) => (c0 + (i : Int)) % 65536 := by
  unfold gapL
  have e : (((c0 + (b : Int)) % 65536 - (c0 + (a : Int)) % 65536 - 1) % 65536).toNat = b - a - 1 := by omega
  rw [e, List.range'_eq_map_range, List.map_map]
  apply List.map_congr_left
  intro i _
  simp only [Function.comp]
  have : (((a + 1 + i : Nat)) : Int) = (a : Int) + 1 + (i : Int) := by omega
  rw [this]
  omega
theorem gaps_betw (c0 : Int) : ∀ l : List Nat, (∀ i ∈ l, i < 1000) → l.Pairwise (· < ·) → gapsL (l.map fun (i : Nat) => (c0 + (i : Int)) % 65536) = (betw l).map fun (i : Nat) => (c0 + (i : Int)) % 65536
  | [], _, _ => rfl
  | [a], _, _ => rfl
  | a :: b :: l, h, hp => by
    have ih := gaps_betw c0 (b :: l) (fun i hi => h i (by simp [hi])) (List.Pairwise.of_cons hp)
    have hab : a < b := (List.pairwise_cons.1 hp).1 b (by simp)
    rw [List.map_cons, List.map_cons, gapsL, betw, List.map_append, gap_range c0 a b hab (by have := h b (by simp); omega), ← ih, List.map_cons]
theorem came_sorted (p : Nat → Bool) (n : Nat) : (cameN p n).Pairwise (· < ·) := by
  unfold cameN
  exact List.Pairwise.filter _ List.pairwise_lt_range
theorem lost_gaps (bad : Nat → Bool) (n : Nat) (hn : n ≤ 16) (c0 : Int) : gapsL ((cameN (fun i => !bad i) n).map fun (i : Nat) => (c0 + (i : Int)) % 65536) = (lostN (cameN (fun i => !bad i) n) ((List.range n).filter bad)).map fun (i : Nat) => (c0 + (i : Int)) % 65536 := by
  rw [gaps_betw c0 _ (fun i hi => by have := (came_mem.1 hi).1; omega) (came_sorted _ _)]
  congr 1
  cases hc : cameN (fun i => !bad i) n with
  | nil =>
    unfold lostN midB
    simp [betw]
  | cons a l =>
    obtain ⟨b, hb⟩ : ∃ b, (a :: l).getLast? = some b := ⟨_, List.getLast?_eq_some_getLast (by simp)⟩
    obtain ⟨h1, h2, h3, h4⟩ := betw_mid (fun i => !bad i) n a b l hc hb
    rw [hc] at h1
    rw [h1]
    unfold lostN
    rw [List.filter_filter]
    have hr : List.range n = List.range b ++ List.range' b (n - b) := by
      rw [List.range_eq_range', List.range_eq_range']
      have h9 := List.range'_append_1 (s := 0) (m := b) (n := n - b)
      rw [Nat.zero_add, show b + (n - b) = n by omega] at h9
      exact h9.symm
    rw [hr, List.filter_append]
    have f2 : (List.range' b (n - b)).filter (fun i => midB (a :: l) i && bad i) = [] := by
      rw [List.filter_eq_nil_iff]
      intro i hi
      rw [List.mem_range'_1] at hi
      unfold midB
      rw [hb]
      simp
      intro _ h
      omega
    rw [f2, List.append_nil]
    refine filter_eq_of fun i hi => ?_
    rw [List.mem_range] at hi
    unfold midB
    rw [hb]
    simp only [List.head?_cons, Bool.not_not]
    rw [Bool.and_comm]
    congr 1
    simp [hi]
end Go.Proofs.YtjmdnolmaofbiaaDoor

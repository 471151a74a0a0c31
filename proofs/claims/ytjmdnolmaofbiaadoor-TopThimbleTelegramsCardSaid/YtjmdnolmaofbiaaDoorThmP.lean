/- Telegrams in bytes: frames, checksums, blocks that are wrong, and the counters that are lost; plain facts. -/
import Derived.Test.YtjmdnolmaofbiaaDoorLib
namespace Go.Proofs.YtjmdnolmaofbiaaDoor
set_option linter.unusedSimpArgs false
set_option linter.unusedVariables false

/-- the checksum of bytes, and the number that they are. -/
def ckF (x : Int) (s : List Int) : Int := s.foldl (fun x b => (263 * x + b) % 16777199) x
def ckN (s : List Int) : Int := ckF 1 s
def numN (s : List Int) : Int := s.foldl (fun n b => 256 * n + b) 0
/-- a telegram: source, counter, four values. -/
abbrev Tg := Int × Int × Int × Int × Int × Int
def hiB (n : Int) : Int := n / 256 % 256
def loB (n : Int) : Int := n % 256
def hd12 (t : Tg) : List Int := [177, loB t.1, hiB t.2.1, loB t.2.1, hiB t.2.2.1, loB t.2.2.1, hiB t.2.2.2.1, loB t.2.2.2.1, hiB t.2.2.2.2.1, loB t.2.2.2.2.1, hiB t.2.2.2.2.2, loB t.2.2.2.2.2]
def lng (n : Int) : List Int := [hiB (n / 65536), loB (n / 65536), hiB n, loB n]
def frm (t : Tg) : List Int := hd12 t ++ lng (ckN (hd12 t))
def s16 (n : Int) : Int := if 32768 ≤ n then n - 65536 else n
def dcT (f : List Int) : Tg := (f.getD 1 0, numN [f.getD 2 0, f.getD 3 0], s16 (numN [f.getD 4 0, f.getD 5 0]), s16 (numN [f.getD 6 0, f.getD 7 0]), s16 (numN [f.getD 8 0, f.getD 9 0]), s16 (numN [f.getD 10 0, f.getD 11 0]))
def dcOk (f : List Int) : Bool := f.getD 0 0 == 177 && numN (f.drop 12) == ckN (f.take 12)
/-- a valid telegram. -/
def TgOk (t : Tg) : Prop := (0 ≤ t.1 ∧ t.1 < 256) ∧ (0 ≤ t.2.1 ∧ t.2.1 < 65536) ∧ (-32768 ≤ t.2.2.1 ∧ t.2.2.1 < 32768) ∧ (-32768 ≤ t.2.2.2.1 ∧ t.2.2.2.1 < 32768) ∧ (-32768 ≤ t.2.2.2.2.1 ∧ t.2.2.2.2.1 < 32768) ∧ (-32768 ≤ t.2.2.2.2.2 ∧ t.2.2.2.2.2 < 32768)
def ByteL (s : List Int) : Prop := ∀ b ∈ s, 0 ≤ b ∧ b < 256
theorem ckF_bd {x : Int} (hx : 0 ≤ x ∧ x < 16777199) : ∀ s : List Int, 0 ≤ ckF x s ∧ ckF x s < 16777199
  | [] => hx
  | b :: s => by
    show 0 ≤ ckF ((263 * x + b) % 16777199) s ∧ _
    exact ckF_bd (x := (263 * x + b) % 16777199) (by omega) s
theorem ckN_bd (s : List Int) : 0 ≤ ckN s ∧ ckN s < 16777199 := ckF_bd (by omega) s
theorem ck_step {x y b : Int} (hx : 0 ≤ x ∧ x < 16777199) (hy : 0 ≤ y ∧ y < 16777199) (h : x ≠ y) : (263 * x + b) % 16777199 ≠ (263 * y + b) % 16777199 := by
  omega
theorem ckF_ne {x y : Int} (hx : 0 ≤ x ∧ x < 16777199) (hy : 0 ≤ y ∧ y < 16777199) (h : x ≠ y) : ∀ s : List Int, ckF x s ≠ ckF y s
  | [] => h
  | b :: s => by
    show ckF ((263 * x + b) % 16777199) s ≠ ckF ((263 * y + b) % 16777199) s
    exact ckF_ne (x := (263 * x + b) % 16777199) (y := (263 * y + b) % 16777199) (by omega) (by omega) (ck_step hx hy h) s
theorem ckF_set {x : Int} (hx : 0 ≤ x ∧ x < 16777199) (c : Int) (hc : 0 ≤ c ∧ c < 256) : ∀ (s : List Int) (k : Nat), ByteL s → k < s.length → s.getD k 0 ≠ c → ckF x (s.set k c) ≠ ckF x s
  | [], k, _, h, _ => by simp at h
  | b :: s, 0, hb, _, hne => by
    show ckF ((263 * x + c) % 16777199) s ≠ ckF ((263 * x + b) % 16777199) s
    have h1 : b ≠ c := hne
    have h2 := hb b (by simp)
    refine ckF_ne (by omega) (by omega) (by omega) s
  | b :: s, k + 1, hb, hk, hne => by
    show ckF ((263 * x + b) % 16777199) (s.set k c) ≠ ckF ((263 * x + b) % 16777199) s
    exact ckF_set (x := (263 * x + b) % 16777199) (by omega) c hc s k (fun y hy => hb y (by simp [hy])) (by simpa using hk) (by simpa using hne)
theorem hd12_len (t : Tg) : (hd12 t).length = 12 := rfl
theorem frm_len (t : Tg) : (frm t).length = 16 := rfl
theorem hd12_byte (t : Tg) : ByteL (hd12 t) := by
  intro b hb
  simp only [hd12, hiB, loB, List.mem_cons, List.not_mem_nil, or_false] at hb
  rcases hb with rfl | rfl | rfl | rfl | rfl | rfl | rfl | rfl | rfl | rfl | rfl | rfl <;> omega
theorem lng_byte (n : Int) : ByteL (lng n) := by
  intro b hb
  simp only [lng, hiB, loB, List.mem_cons, List.not_mem_nil, or_false] at hb
  rcases hb with rfl | rfl | rfl | rfl <;> omega
theorem frm_byte (t : Tg) : ByteL (frm t) := by
  intro b hb
  unfold frm at hb
  rcases List.mem_append.1 hb with h | h
  · exact hd12_byte t b h
  · exact lng_byte _ b h
theorem lng_num {n : Int} (h : 0 ≤ n ∧ n < 4294967296) : numN (lng n) = n := by
  show 256 * (256 * (256 * (256 * 0 + hiB (n / 65536)) + loB (n / 65536)) + hiB n) + loB n = n
  unfold hiB loB
  omega
theorem frm_ok {t : Tg} (h : TgOk t) : dcOk (frm t) = true ∧ dcT (frm t) = t := by
  obtain ⟨h0, h1, h2, h3, h4, h5⟩ := h
  have hck := ckN_bd (hd12 t)
  constructor
  · unfold dcOk
    have e1 : (frm t).drop 12 = lng (ckN (hd12 t)) := rfl
    have e2 : (frm t).take 12 = hd12 t := rfl
    rw [e1, e2, lng_num (by omega)]
    simp [frm, hd12]
  · obtain ⟨a, b, c, d, e, f⟩ := t
    simp only at h0 h1 h2 h3 h4 h5
    show (loB a, 256 * (256 * 0 + hiB b) + loB b, s16 (256 * (256 * 0 + hiB c) + loB c), s16 (256 * (256 * 0 + hiB d) + loB d), s16 (256 * (256 * 0 + hiB e) + loB e), s16 (256 * (256 * 0 + hiB f) + loB f)) = _
    have key : ∀ v : Int, -32768 ≤ v ∧ v < 32768 → s16 (256 * (256 * 0 + hiB v) + loB v) = v := fun v hv => by
      unfold s16 hiB loB
      split <;> omega
    rw [key c h2, key d h3, key e h4, key f h5]
    unfold loB hiB
    rw [show a % 256 = a by omega, show 256 * (256 * 0 + b / 256 % 256) + b % 256 = b by omega]
theorem frm_bad (t : Tg) (k : Nat) (c : Int) (hk : k < 16) (hc : 0 ≤ c ∧ c < 256) (hne : (frm t).getD k 0 ≠ c) : dcOk ((frm t).set k c) = false := by
  have hck := ckN_bd (hd12 t)
  have e1 : (frm t).drop 12 = lng (ckN (hd12 t)) := rfl
  have e2 : (frm t).take 12 = hd12 t := rfl
  cases hq : dcOk ((frm t).set k c) with
  | false => rfl
  | true =>
    exfalso
    unfold dcOk at hq
    rw [Bool.and_eq_true, beq_iff_eq, beq_iff_eq] at hq
    obtain ⟨q0, q1⟩ := hq
    by_cases h0 : k = 0
    · subst h0
      have : c = 177 := q0
      exact hne this.symm
    · by_cases h12 : k < 12
      · have d1 : ((frm t).set k c).drop 12 = lng (ckN (hd12 t)) := by rw [List.drop_set_of_lt h12, e1]
        have d2 : ((frm t).set k c).take 12 = (hd12 t).set k c := by rw [List.take_set, e2]
        rw [d1, d2, lng_num (by omega)] at q1
        have hn : (hd12 t).getD k 0 ≠ c := by
          have : (frm t).getD k 0 = (hd12 t).getD k 0 := by
            rw [← e2]
            simp [List.getD, h12]
          rw [← this]; exact hne
        exact ckF_set (x := 1) (by omega) c hc (hd12 t) k (hd12_byte t) h12 hn q1.symm
      · have d1 : ((frm t).set k c).drop 12 = (lng (ckN (hd12 t))).set (k - 12) c := by rw [List.drop_set, if_neg h12, e1]
        have d2 : ((frm t).set k c).take 12 = hd12 t := by rw [List.take_set_of_le (by omega), e2]
        rw [d1, d2] at q1
        have hl := lng_num (n := ckN (hd12 t)) (by omega)
        have hlb := lng_byte (ckN (hd12 t))
        have hn : (lng (ckN (hd12 t))).getD (k - 12) 0 ≠ c := by
          have : (frm t).getD k 0 = (lng (ckN (hd12 t))).getD (k - 12) 0 := by
            rw [← e1]
            simp [List.getD, List.getElem?_drop, show 12 + (k - 12) = k by omega]
          rw [← this]; exact hne
        have hj : k - 12 < 4 := by omega
        generalize k - 12 = j at *
        generalize ckN (hd12 t) = n at *
        have hb : ∀ b, b ∈ lng n → 0 ≤ b ∧ b < 256 := hlb
        unfold lng at q1 hn hl hb
        generalize hiB (n / 65536) = b0 at *
        generalize loB (n / 65536) = b1 at *
        generalize hiB n = b2 at *
        generalize loB n = b3 at *
        have v : 256 * (256 * (256 * (256 * 0 + b0) + b1) + b2) + b3 = n := hl
        have p0 := hb b0 (by simp)
        have p1 := hb b1 (by simp)
        have p2 := hb b2 (by simp)
        have p3 := hb b3 (by simp)
        have h4 : j = 0 ∨ j = 1 ∨ j = 2 ∨ j = 3 := by omega
        rcases h4 with rfl | rfl | rfl | rfl
        · have q : 256 * (256 * (256 * (256 * 0 + c) + b1) + b2) + b3 = n := q1
          have hn' : b0 ≠ c := hn
          omega
        · have q : 256 * (256 * (256 * (256 * 0 + b0) + c) + b2) + b3 = n := q1
          have hn' : b1 ≠ c := hn
          omega
        · have q : 256 * (256 * (256 * (256 * 0 + b0) + b1) + c) + b3 = n := q1
          have hn' : b2 ≠ c := hn
          omega
        · have q : 256 * (256 * (256 * (256 * 0 + b0) + b1) + b2) + c = n := q1
          have hn' : b3 ≠ c := hn
          omega

/-- the blocks that are telegrams, and the indices of the others. -/
def rcT (fs : List (List Int)) : List Tg := (fs.filter dcOk).map dcT
def rcB (fs : List (List Int)) (k : Nat) : List Int := ((List.range k).filter fun i => !dcOk (fs.getD i [])).map fun (i : Nat) => (i : Int)
/-- the counters between two of them. -/
def gapL (c d : Int) : List Int := (List.range ((d - c - 1) % 65536).toNat).map fun (k : Nat) => (c + 1 + (k : Int)) % 65536
def gapsL : List Int → List Int
  | c :: d :: l => gapL c d ++ gapsL (d :: l)
  | _ => []

/-- of numbers below N: those that came (p), those that did not, and what lies between the first and the last one that came. -/
def cameN (p : Nat → Bool) (N : Nat) : List Nat := (List.range N).filter p
def midN (p : Nat → Bool) (N : Nat) : List Nat := (List.range N).filter fun i => !p i && (match (cameN p N).head?, (cameN p N).getLast? with | some a, some b => decide (a < i ∧ i < b) | _, _ => false)
def betw : List Nat → List Nat
  | c :: d :: l => List.range' (c + 1) (d - c - 1) ++ betw (d :: l)
  | _ => []
theorem betw_snoc : ∀ (l : List Nat) (a b : Nat), betw (l ++ [a] ++ [b]) = betw (l ++ [a]) ++ List.range' (a + 1) (b - a - 1)
  | [], a, b => by simp [betw]
  | [c], a, b => by simp [betw]
  | c :: d :: l, a, b => by
    have ih := betw_snoc (d :: l) a b
    simp only [List.cons_append, betw] at ih ⊢
    rw [ih, List.append_assoc]
theorem came_succ (p : Nat → Bool) (N : Nat) : cameN p (N + 1) = if p N = true then cameN p N ++ [N] else cameN p N := by
  unfold cameN
  rw [List.range_succ, List.filter_append]
  by_cases h : p N = true
  · rw [if_pos h]; simp [h]
  · rw [if_neg h]; simp [h]
theorem came_mem {p : Nat → Bool} {N i : Nat} : i ∈ cameN p N ↔ i < N ∧ p i = true := by
  unfold cameN
  simp [List.mem_filter, List.mem_range]
/-- what lies between is told right. -/
theorem betw_mid (p : Nat → Bool) : ∀ N : Nat, ∀ a b l, cameN p N = a :: l → (a :: l).getLast? = some b → betw (cameN p N) = (List.range b).filter (fun i => !p i && decide (a < i)) ∧ p b = true ∧ b < N ∧ (∀ i, b < i → i < N → p i = false)
  | 0, a, b, l, h, _ => by simp [cameN] at h
  | N + 1, a, b, l, h, hb => by
    rw [came_succ] at h ⊢
    by_cases hp : p N = true
    · rw [if_pos hp] at h ⊢
      cases hc : cameN p N with
      | nil =>
        rw [hc, List.nil_append] at h
        injection h with h1 h2
        subst h1 h2
        simp at hb
        subst hb
        refine ⟨?_, hp, by omega, fun i h1 h2 => by omega⟩
        show [] = _
        symm
        rw [List.filter_eq_nil_iff]
        intro i hi
        rw [List.mem_range] at hi
        simp
        intro _
        omega
      | cons c m =>
        rw [hc, List.cons_append] at h
        injection h with h1 h2
        subst h1 h2
        obtain ⟨b', hb'⟩ : ∃ b', (c :: m).getLast? = some b' := by
          exact ⟨_, List.getLast?_eq_some_getLast (by simp)⟩
        obtain ⟨i1, i2, i3, i4⟩ := betw_mid p N c b' m hc hb'
        have hbN : b = N := by
          rw [← List.cons_append, List.getLast?_append] at hb
          simpa using hb.symm
        subst hbN
        obtain ⟨m', hm'⟩ : ∃ m', c :: m = m' ++ [b'] := by
          refine ⟨(c :: m).dropLast, ?_⟩
          rw [List.getLast?_eq_some_getLast (by simp)] at hb'
          rw [← Option.some.inj hb']; exact (List.dropLast_concat_getLast (by simp)).symm
        refine ⟨?_, hp, by omega, fun i h1 h2 => by omega⟩
        rw [hc] at i1
        rw [hm', betw_snoc, ← hm', i1]
        have hr : List.range b = List.range b' ++ [b'] ++ List.range' (b' + 1) (b - b' - 1) := by
          rw [← List.range_succ, List.range_eq_range', List.range_eq_range']
          have h9 := List.range'_append_1 (s := 0) (m := b' + 1) (n := b - b' - 1)
          rw [Nat.zero_add, show b' + 1 + (b - b' - 1) = b by omega] at h9
          exact h9.symm
        rw [hr, List.filter_append, List.filter_append]
        have f1 : [b'].filter (fun i => !p i && decide (c < i)) = [] := by simp [i2]
        have f2 : (List.range' (b' + 1) (b - b' - 1)).filter (fun i => !p i && decide (c < i)) = List.range' (b' + 1) (b - b' - 1) := by
          rw [List.filter_eq_self]
          intro i hi
          rw [List.mem_range'_1] at hi
          have hcb : c ≤ b' := by
            have hmem : c ∈ cameN p b := by rw [hc]; simp
            have := (came_mem.1 hmem).1
            by_cases h : c ≤ b'
            · exact h
            · have := i4 c (by omega) this
              rw [(came_mem.1 hmem).2] at this
              cases this
          rw [i4 i (by omega) (by omega)]
          simp
          omega
        rw [f1, f2, List.append_nil]
    · rw [if_neg hp] at h ⊢
      obtain ⟨i1, i2, i3, i4⟩ := betw_mid p N a b l h hb
      refine ⟨i1, i2, by omega, fun i h1 h2 => ?_⟩
      by_cases e : i = N
      · rw [e]; simpa using hp
      · exact i4 i h1 (by omega)
end Go.Proofs.YtjmdnolmaofbiaaDoor

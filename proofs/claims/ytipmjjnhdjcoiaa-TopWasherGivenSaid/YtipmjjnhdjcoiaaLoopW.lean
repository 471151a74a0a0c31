/- Table, Stable, Sum, Degree. -/
import Derived.Test.YtipmjjnhdjcoiaaCertify
import Derived.Deep.DeepCutAuto
namespace Go.Proofs.Ytipmjjnhdjcoiaa
open Go.RowKit

theorem checkPolyE_len {p : List Int} (h : checkPolyE p = 0) : p.length ≤ 1000 := by have := checkPolyE_ok h; omega

def tableR (p : List Int) : List (List Int) := if checkPolyE p ≠ 0 then [] else tableW p

def stableR (p : List Int) : Bool := if checkPolyE p ≠ 0 then false else stableB p

def degreeR (p : List Int) : Int := if checkPolyE p ≠ 0 then 0 else (p.length : Int) - 1

def sumE (p q : List Int) : Int := if prod1E p q ≠ 0 then prod1E p q else if (plusW p q).length = 0 then 6 else if (plusW p q).any largeB then 4 else 0
def sumR (p q : List Int) : List Int := if sumE p q ≠ 0 then [] else plusW p q

/-- Euclid's way, with fuel. -/
def gcdW : Nat → Int → Int → Int
  | 0, a, _ => a
  | f + 1, a, b => if b = 0 then a else gcdW f b (a.tmod b)
def commonW (a b : Int) : Int := absW (gcdW (b.natAbs + 1) a b)

theorem tmod_lt (a b : Int) (h : b ≠ 0) : (a.tmod b).natAbs < b.natAbs := by
  rw [Int.natAbs_tmod]; exact Nat.mod_lt _ (by omega)

theorem gcdW_fuel (a b : Int) (f : Nat) (h : b.natAbs < f) : gcdW f a b = gcdW (b.natAbs + 1) a b := by
  induction f generalizing a b with
  | zero => omega
  | succ f ih =>
    rw [gcdW, gcdW]
    by_cases hb : b = 0
    · rw [if_pos hb, if_pos hb]
    · rw [if_neg hb, if_neg hb]
      have ht := tmod_lt a b hb
      rw [ih b (a.tmod b) (by omega)]
      -- the other side, with less fuel
      have key : ∀ (n m : Nat) (x y : Int), y.natAbs < n → y.natAbs < m → gcdW n x y = gcdW m x y := by
        intro n
        induction n with
        | zero => intro m x y h; omega
        | succ n ihn =>
          intro m x y h1 h2
          cases m with
          | zero => omega
          | succ m =>
            rw [gcdW, gcdW]
            by_cases hy : y = 0
            · rw [if_pos hy, if_pos hy]
            · rw [if_neg hy, if_neg hy]
              have := tmod_lt x y hy
              exact ihn m _ _ (by omega) (by omega)
      exact key _ _ _ _ (by omega) (by omega)

theorem gcdW_ne (f : Nat) (a b : Int) (h : a ≠ 0 ∨ b ≠ 0) (hf : b.natAbs < f) : gcdW f a b ≠ 0 ∧ (gcdW f a b).natAbs ≤ max a.natAbs b.natAbs := by
  induction f generalizing a b with
  | zero => omega
  | succ f ih =>
    rw [gcdW]
    by_cases hb : b = 0
    · rw [if_pos hb]; exact ⟨by rcases h with h | h; exact h; exact absurd hb h, by omega⟩
    · rw [if_neg hb]
      have := tmod_lt a b hb
      obtain ⟨h1, h2⟩ := ih b (a.tmod b) (.inl hb) (by omega)
      exact ⟨h1, by omega⟩
theorem gcdW_le (f : Nat) (a b : Int) : (gcdW f a b).natAbs ≤ max a.natAbs b.natAbs := by
  induction f generalizing a b with
  | zero => rw [gcdW]; omega
  | succ f ih =>
    rw [gcdW]
    by_cases hb : b = 0
    · rw [if_pos hb]; omega
    · rw [if_neg hb]
      have := tmod_lt a b hb
      have := ih b (a.tmod b)
      omega
theorem commonW_bd (a b : Int) (n : Nat) (ha : a.natAbs ≤ n) (hb : b.natAbs ≤ n) (hn : n ≤ 4611686018427387904) : 0 ≤ commonW a b ∧ commonW a b ≤ n ∧ ((a ≠ 0 ∨ b ≠ 0) → 1 ≤ commonW a b) := by
  have h1 := gcdW_le (b.natAbs + 1) a b
  have h2 := fun h => (gcdW_ne (b.natAbs + 1) a b h (by omega)).1
  unfold commonW absW
  generalize gcdW (b.natAbs + 1) a b = g at h1 h2
  rw [IntWalk.wrap64_in (-g) (by omega)]
  refine ⟨by omega, by omega, fun h => ?_⟩
  have := h2 h
  omega

/-- a coefficient of a scaled polynomial, ahead of the division. -/
def scaleK (p : List Int) (num den : Int) (k : Nat) : Int := wrap64 (wrap64 (p[k]?.getD 0 * powW num (p.length - 1 - k)) * powW den k)
def allK (p : List Int) (num den : Int) : Nat → Int
  | 0 => 0
  | k + 1 => commonW (allK p num den k) (scaleK p num den k)
def scaledW (p : List Int) (num den : Int) : List Int := upto (fun k => wrap64 ((scaleK p num den k).tdiv (allK p num den p.length))) p.length

theorem powW_small {a : Int} {n : Nat} (h1 : 1 ≤ a) (h2 : a ≤ 4) (hn : n ≤ 4) : 1 ≤ powW a n ∧ powW a n ≤ 256 := by
  have key : ∀ a : Fin 4, ∀ n : Fin 5, 1 ≤ powW ((a.val : Int) + 1) n.val ∧ powW ((a.val : Int) + 1) n.val ≤ 256 := by decide +kernel
  have := key ⟨(a - 1).toNat, by omega⟩ ⟨n, by omega⟩
  simp only at this
  rw [show (((a - 1).toNat : Nat) : Int) + 1 = a from by omega] at this
  exact this

/-- the polynomial is checked, the numbers are from 1 to 4. -/
structure ScaleP (p : List Int) (num den : Int) : Prop where
  hp : checkPolyE p = 0
  hnum : 1 ≤ num ∧ num ≤ 4
  hden : 1 ≤ den ∧ den ≤ 4

theorem checkPolyE_range {p : List Int} (h : checkPolyE p = 0) : (∀ x ∈ p, -100 ≤ x ∧ x ≤ 100) ∧ p[p.length - 1]?.getD 0 ≠ 0 := by
  have hl := checkPolyE_ok h
  unfold checkPolyE at h
  rw [if_neg (by omega), if_neg (by omega)] at h
  obtain ⟨h1, h2⟩ := firstE_cons_ok h
  obtain ⟨h2, _⟩ := firstE_cons_ok h2
  refine ⟨fun x hx => withinE_ok (firstE_map_ok h1 x hx), fun h0 => ?_⟩
  have := whenE_ok h2 (by decide)
  rw [h0] at this
  simp at this

theorem scaleK_bd {p : List Int} {num den : Int} (h : ScaleP p num den) (k : Nat) (hk : k < p.length) : scaleK p num den k = p[k]?.getD 0 * powW num (p.length - 1 - k) * powW den k ∧ (scaleK p num den k).natAbs ≤ 6553600 := by
  have hl := checkPolyE_ok h.hp
  have hx : -100 ≤ p[k]?.getD 0 ∧ p[k]?.getD 0 ≤ 100 := by
    rw [List.getElem?_eq_getElem hk]
    exact (checkPolyE_range h.hp).1 _ (List.getElem_mem hk)
  have h1 := powW_small (n := p.length - 1 - k) h.hnum.1 h.hnum.2 (by omega)
  have h2 := powW_small (n := k) h.hden.1 h.hden.2 (by omega)
  unfold scaleK
  generalize p[k]?.getD 0 = x at hx
  generalize powW num (p.length - 1 - k) = u at h1
  generalize powW den k = v at h2
  have b1 : (x * u).natAbs ≤ 100 * 256 := by rw [Int.natAbs_mul]; exact Nat.mul_le_mul (by omega) (by omega)
  have b2 : (x * u * v).natAbs ≤ 100 * 256 * 256 := by rw [Int.natAbs_mul]; exact Nat.mul_le_mul b1 (by omega)
  rw [IntWalk.wrap64_in (x * u) (by omega), IntWalk.wrap64_in (x * u * v) (by omega)]
  exact ⟨rfl, b2⟩
theorem allK_bd {p : List Int} {num den : Int} (h : ScaleP p num den) (k : Nat) (hk : k ≤ p.length) : 0 ≤ allK p num den k ∧ allK p num den k ≤ 6553600 := by
  induction k with
  | zero => rw [allK]; omega
  | succ k ih =>
    have h1 := ih (by omega)
    have h2 := (scaleK_bd h k (by omega)).2
    have := commonW_bd (allK p num den k) (scaleK p num den k) 6553600 (by omega) (by omega) (by decide)
    rw [allK]
    exact ⟨this.1, this.2.1⟩
theorem allK_pos {p : List Int} {num den : Int} (h : ScaleP p num den) : 1 ≤ allK p num den p.length := by
  have hl := checkPolyE_ok h.hp
  obtain ⟨n, hn⟩ : ∃ n, p.length = n + 1 := ⟨p.length - 1, by omega⟩
  have h1 := allK_bd h n (by omega)
  obtain ⟨e, h2⟩ := scaleK_bd h n (by omega)
  rw [hn, allK]
  refine (commonW_bd (allK p num den n) (scaleK p num den n) 6553600 (by omega) (by omega) (by decide)).2.2 (.inr ?_)
  have hz := (checkPolyE_range h.hp).2
  rw [hn, Nat.add_sub_cancel] at hz
  have p1 := powW_small (n := p.length - 1 - n) h.hnum.1 h.hnum.2 (by omega)
  have p2 := powW_small (n := n) h.hden.1 h.hden.2 (by omega)
  rw [e]
  exact Int.mul_ne_zero (Int.mul_ne_zero hz (by omega)) (by omega)

/-- what the first loop has laid behind k rounds. -/
def scaleRow (p : List Int) (num den : Int) (k : Nat) : List Int := upto (scaleK p num den) k ++ List.replicate (p.length - k) 0
def divRow (p : List Int) (num den g : Int) (k : Nat) : List Int := upto (fun j => wrap64 ((scaleK p num den j).tdiv g)) k ++ (upto (scaleK p num den) p.length).drop k
theorem scaleRow_set (p : List Int) (num den : Int) (k : Nat) (h : k < p.length) : (scaleRow p num den k).set k (scaleK p num den k) = scaleRow p num den (k + 1) := by
  unfold scaleRow
  rw [List.set_append_right _ _ (by rw [upto_length]; exact Nat.le_refl _), upto_length, Nat.sub_self, show p.length - k = (p.length - (k + 1)) + 1 from by omega, List.replicate_succ, List.set_cons_zero, upto_succ]
  simp
theorem upto_get {α : Type} (f : Nat → α) (n j : Nat) (h : j < n) : (upto f n)[j]? = some (f j) := by simp [upto, h]
theorem scaleRow_get (p : List Int) (num den : Int) (k : Nat) : (scaleRow p num den (k + 1))[k]?.getD 0 = scaleK p num den k := by
  unfold scaleRow
  rw [List.getElem?_append_left (by rw [upto_length]; omega), upto_get _ _ _ (by omega)]; rfl
theorem divRow_set (p : List Int) (num den g : Int) (k : Nat) (h : k < p.length) : (divRow p num den g k).set k (wrap64 ((scaleK p num den k).tdiv g)) = divRow p num den g (k + 1) := by
  unfold divRow
  rw [List.set_append_right _ _ (by rw [upto_length]; exact Nat.le_refl _), upto_length, Nat.sub_self, upto_succ]
  have hd : (upto (scaleK p num den) p.length).drop k = scaleK p num den k :: (upto (scaleK p num den) p.length).drop (k + 1) := by
    rw [List.drop_eq_getElem_cons (by rw [upto_length]; exact h)]
    congr 1
    have := upto_get (scaleK p num den) p.length k h
    rw [List.getElem?_eq_getElem (by rw [upto_length]; exact h)] at this
    exact Option.some.inj this
  rw [hd, List.set_cons_zero]
  simp
theorem divRow_get (p : List Int) (num den g : Int) (k : Nat) (h : k < p.length) : (divRow p num den g k)[k]?.getD 0 = scaleK p num den k := by
  unfold divRow
  rw [List.getElem?_append_right (by rw [upto_length]; exact Nat.le_refl _), upto_length, Nat.sub_self, List.getElem?_drop, Nat.add_zero, upto_get _ _ _ h]; rfl
theorem scaleRow_length (p : List Int) (num den : Int) (k : Nat) (h : k ≤ p.length) : (scaleRow p num den k).length = p.length := by simp [scaleRow, upto_length]; omega
theorem divRow_length (p : List Int) (num den g : Int) (k : Nat) (h : k ≤ p.length) : (divRow p num den g k).length = p.length := by simp [divRow, upto_length]; omega

def ratioE (num den : Int) : Int := firstE [withinE num 1 4, withinE den 1 4, whenE (commonW num den != 1) 1]

def scal1E (p : List Int) (num den : Int) : Int := firstE [checkPolyE p, ratioE num den]
theorem scal1E_ok {p : List Int} {num den : Int} (h : scal1E p num den = 0) : ScaleP p num den ∧ ScaleP p den num := by
  obtain ⟨h1, h⟩ := firstE_cons_ok h
  obtain ⟨h2, _⟩ := firstE_cons_ok h
  obtain ⟨h3, h2⟩ := firstE_cons_ok h2
  obtain ⟨h4, _⟩ := firstE_cons_ok h2
  exact ⟨⟨h1, withinE_ok h3, withinE_ok h4⟩, ⟨h1, withinE_ok h4, withinE_ok h3⟩⟩
def scaledE (p : List Int) (num den : Int) : Int := if scal1E p num den ≠ 0 then scal1E p num den else if (scaledW p num den).any largeB then 4 else 0
def scaledR (p : List Int) (num den : Int) : List Int := if scaledE p num den ≠ 0 then [] else scaledW p num den

def within2E (p : List Int) (num den : Int) : Int := if scal1E p num den ≠ 0 then scal1E p num den else if (scaledW p den num).any largeB then 4 else 0
def within2R (p : List Int) (num den : Int) : Bool := if within2E p num den ≠ 0 then false else stableB (scaledW p den num)

theorem take_eq_succ {α : Type} {a b : List α} {k : Nat} {x : α} (h : a.take k = b.take k) (ha : a[k]? = some x) (hb : b[k]? = some x) : a.take (k + 1) = b.take (k + 1) := by
  rw [List.take_add_one, List.take_add_one, h, ha, hb]
theorem ne_of_get {α : Type} {a b : List α} {k : Nat} {x y : α} (ha : a[k]? = some x) (hb : b[k]? = some y) (h : x ≠ y) : a ≠ b := by
  rintro rfl; rw [ha] at hb; exact h (Option.some.inj hb)

def checkTableE (p : List Int) (t : List (List Int)) : Int := if checkPolyE p ≠ 0 then checkPolyE p else whenE (!decide (tableW p = t) || !stableB p) 19

def strP (a b c d : List Int) (n : Int) : List Int := closedW (a.map fun x => wrap64 (n * x)) b c d
def strL (a b c d : List Int) : Nat → Int → Int × Int
  | 0, _ => (0, 7)
  | f + 1, n => if (strP a b c d n).any largeB then (0, 4) else if stableB (strP a b c d n) then strL a b c d f (n + 1) else (n, 0)
def str1E (a b c d : List Int) (most : Int) : Int := firstE [checkLoopE a b c d, withinE most 1 20]
def strengthRE (a b c d : List Int) (most : Int) : Int × Int := if str1E a b c d most ≠ 0 then (0, str1E a b c d most) else strL a b c d most.toNat 1

/-- the value in the cell to which a pointer leads. -/
def cellAt (v : Value) (w : World) : Value := match v with | .pointer (some a) => (w.cell? a).getD undef | _ => undef

end Go.Proofs.Ytipmjjnhdjcoiaa

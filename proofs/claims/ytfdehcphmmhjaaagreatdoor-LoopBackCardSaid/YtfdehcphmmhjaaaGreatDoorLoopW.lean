/- Table, Stable, Sum, Degree. -/
import Derived.Test.YtfdehcphmmhjaaaGreatDoorCertify
import Derived.Deep.DeepCutAuto
namespace Go.Proofs.YtfdehcphmmhjaaaGreatDoor
open Go.RowKit

theorem checkPolyE_len {p : List Int} (h : checkPolyE p = 0) : p.length ≤ 1000 := by have := checkPolyE_ok h; omega

def tableR (p : List Int) : List (List Int) := if checkPolyE p ≠ 0 then [] else tableW p

set_option maxHeartbeats 400000 in
theorem Table_any (v : Value) (p : List Int) (w : World) (hv : Ints w v p) (hl : p.length ≤ 1000000) :
    Calls Tryz.prog 16 #[v] w fun e w' => (∃ u, e = .returned (.tuple #[u, .int .i64 (checkPolyE p)]) ∧ RowsOf w' u (tableR p)) ∧ Below w.heap.size w w' := by
  go_enter Tryz.func16, Tryz.ntmps16
  go_wp2_with fail
  refine (CheckPoly_any v p w (by omega) hv).mono ?_
  rintro e w1 ⟨rfl, hb⟩
  by_cases he : checkPolyE p = 0
  · have HR := Lib.hid (show tableR p = tableW p by rw [tableR, if_neg (by rw [he]; simp)])
    have HE := Lib.hid he
    rw [he]
    clear he
    go_wp2_with fail
    refine (table_any v p w1 (hv.carry hb) hl).mono ?_
    rintro e w2 ⟨⟨u, rfl, hu⟩, hb2⟩
    go_wp2
    go_ret2
    exact ⟨⟨_, by rw [HE.out]; rfl, by rw [HR.out]; exact hu⟩, bthen hb hb2⟩
  · have HR := Lib.hid (show tableR p = [] by rw [tableR, if_pos he])
    go_wp2
    go_ret2
    exact ⟨⟨_, rfl, by rw [HR.out]; exact RowsOf.nil _⟩, hb⟩

def stableR (p : List Int) : Bool := if checkPolyE p ≠ 0 then false else stableB p

set_option maxHeartbeats 400000 in
theorem Stable_any (v : Value) (p : List Int) (w : World) (hv : Ints w v p) (hl : p.length ≤ 1000000) :
    Calls Tryz.prog 17 #[v] w fun e w' => e = .returned (.tuple #[.bool (stableR p), .int .i64 (checkPolyE p)]) ∧ Below w.heap.size w w' := by
  go_enter Tryz.func17, Tryz.ntmps17
  go_wp2_with fail
  refine (CheckPoly_any v p w (by omega) hv).mono ?_
  rintro e w1 ⟨rfl, hb⟩
  by_cases he : checkPolyE p = 0
  · have HR := Lib.hid (show stableR p = stableB p by rw [stableR, if_neg (by rw [he]; simp)])
    have HE := Lib.hid he
    rw [he]
    clear he
    go_wp2_with fail
    refine (isStable_any v p w1 (hv.carry hb) hl).mono ?_
    rintro e w2 ⟨rfl, hb2⟩
    go_wp2
    go_ret2
    exact ⟨by rw [HR.out, HE.out]; rfl, bthen hb hb2⟩
  · have HR := Lib.hid (show stableR p = false by rw [stableR, if_pos he])
    go_wp2
    go_ret2
    exact ⟨by rw [HR.out]; rfl, hb⟩

def degreeR (p : List Int) : Int := if checkPolyE p ≠ 0 then 0 else (p.length : Int) - 1

def sumE (p q : List Int) : Int := if prod1E p q ≠ 0 then prod1E p q else if (plusW p q).length = 0 then 6 else if (plusW p q).any largeB then 4 else 0
def sumR (p q : List Int) : List Int := if sumE p q ≠ 0 then [] else plusW p q

/-- Euclid's way, with fuel. -/
def gcdW : Nat → Int → Int → Int
  | 0, a, _ => a
  | f + 1, a, b => if b = 0 then a else gcdW f b (a.tmod b)
def commonW (a b : Int) : Int := absW (gcdW (b.natAbs + 1) a b)

theorem tmod_lt (a b : Int) (h : b ≠ 0) : (a.tmod b).natAbs < b.natAbs := by
  rw [Int.natAbs_tmod]; exact Nat.mod_lt _ (by omega)

theorem gcdW_fuel (a b : Int) (f : Nat) (h : b.natAbs < f) : gcdW f a b = gcdW (b.natAbs + 1) a b := by
  induction f generalizing a b with
  | zero => omega
  | succ f ih =>
    rw [gcdW, gcdW]
    by_cases hb : b = 0
    · rw [if_pos hb, if_pos hb]
    · rw [if_neg hb, if_neg hb]
      have ht := tmod_lt a b hb
      rw [ih b (a.tmod b) (by omega)]
      -- the other side, with less fuel
      have key : ∀ (n m : Nat) (x y : Int), y.natAbs < n → y.natAbs < m → gcdW n x y = gcdW m x y := by
        intro n
        induction n with
        | zero => intro m x y h; omega
        | succ n ihn =>
          intro m x y h1 h2
          cases m with
          | zero => omega
          | succ m =>
            rw [gcdW, gcdW]
            by_cases hy : y = 0
            · rw [if_pos hy, if_pos hy]
            · rw [if_neg hy, if_neg hy]
              have := tmod_lt x y hy
              exact ihn m _ _ (by omega) (by omega)
      exact key _ _ _ _ (by omega) (by omega)

set_option maxHeartbeats 1000000 in
theorem common_any (a b : Int) (w : World) (ha : -9223372036854775808 ≤ a ∧ a ≤ 9223372036854775807) (hb : -9223372036854775808 ≤ b ∧ b ≤ 9223372036854775807) :
    Calls Tryz.prog 107 #[.int .i64 a, .int .i64 b] w fun e w' => e = .returned (.int .i64 (commonW a b)) ∧ Below w.heap.size w w' := by
  have HA := Lib.hid ha
  have HB := Lib.hid hb
  clear ha hb
  go_enter Tryz.func107, Tryz.ntmps107
  go_wp2
  go_loopw [0, 1] (fun va vb wr => ∃ (x y : Int) (f : Nat), va = .int .i64 x ∧ vb = .int .i64 y ∧ -9223372036854775808 ≤ x ∧ x ≤ 9223372036854775807 ∧ -9223372036854775808 ≤ y ∧ y ≤ 9223372036854775807 ∧ y.natAbs < f ∧ gcdW f x y = gcdW (b.natAbs + 1) a b ∧ Below w.heap.size w wr) (fun _ vb _ => (intOf vb).natAbs)
  case atStart => exact ⟨a, b, b.natAbs + 1, rfl, rfl, HA.out.1, HA.out.2, HB.out.1, HB.out.2, by omega, rfl, Below.refl _ _⟩
  case round =>
    obtain ⟨x, y, f, rfl, rfl, x1, x2, y1, y2, hf, hg, hbr⟩ := hrel
    have HG := Lib.hid hg
    clear hg
    by_cases h0 : y = 0
    · subst h0
      have hr : commonW a b = absW x := by
        rw [commonW, ← HG.out]
        cases f with
        | zero => omega
        | succ f => rw [gcdW, if_pos rfl]
      have HR := Lib.hid hr
      clear hr
      go_wp2
      all_goals
        go_ret
        refine ⟨ret_int ?_, hbr⟩
        rw [HR.out, absW]
        omega
    · have hy : (y == 0) = false := by simpa using h0
      have hlt := tmod_lt x y h0
      have hG2 : gcdW (f - 1) y (x.tmod y) = gcdW (b.natAbs + 1) a b := by
        rw [← HG.out]
        cases f with
        | zero => omega
        | succ f => rw [gcdW, if_neg h0, Nat.add_sub_cancel]
      have HG2 := Lib.hid hG2
      have HLT := Lib.hid hlt
      clear hG2 hlt HG
      go_wp2_with fail
      refine wp_region_held_drew (S := (fun _ => True)) (by kernel_rfl) ?_ (fun hHeld0 => ?_)
      · (try dsimp only); (first | done | trivial)
      refine wpAnyH_take (i := 0) (oi := { dst := some 7, op := Op.move (Operand.tmp 1), type := 3, pos := "loop.go:278", after := #[], guard := none }) (v := ?_) rfl (by kernel_rfl) (by kernel_rfl) (by kernel_rfl) (fun _ _ _ h => h) (Or.inl ⟨by rfl, ?_⟩) (by assumption) ?_
      rotate_left
      · (intro w hSw; (try dsimp only at hSw); go_simp); (try with_reducible rfl)
      try simp only [Act.put, List.setIfInBounds_toArray, List.set_cons_zero, List.set_cons_succ]
      refine wpAnyH_take (i := 1) (oi := { dst := some 8, op := Op.move (Operand.tmp 0), type := 3, pos := "loop.go:278", after := #[], guard := none }) (v := ?_) rfl (by kernel_rfl) (by kernel_rfl) (by kernel_rfl) (fun _ _ _ h => h) (Or.inl ⟨by rfl, ?_⟩) (by assumption) ?_
      rotate_left
      · (intro w hSw; (try dsimp only at hSw); go_simp); (try with_reducible rfl)
      try simp only [Act.put, List.setIfInBounds_toArray, List.set_cons_zero, List.set_cons_succ]
      refine wpAnyH_take (i := 2) (oi := { dst := some 9, op := Op.move (Operand.tmp 1), type := 3, pos := "loop.go:278", after := #[], guard := none }) (v := ?_) rfl (by kernel_rfl) (by kernel_rfl) (by kernel_rfl) (fun _ _ _ h => h) (Or.inl ⟨by rfl, ?_⟩) (by assumption) ?_
      rotate_left
      · (intro w hSw; (try dsimp only at hSw); go_simp); (try with_reducible rfl)
      try simp only [Act.put, List.setIfInBounds_toArray, List.set_cons_zero, List.set_cons_succ]
      refine wpAnyH_take (i := 3) (oi := { dst := some 10, op := Op.binOp BinOp.rem 3 (Operand.tmp 8) (Operand.tmp 9) 3, type := 3, pos := "loop.go:278", after := #[{ on := 1, ground := Ground.data }, { on := 2, ground := Ground.data }], guard := none }) (v := ?_) rfl (by kernel_rfl) (by kernel_rfl) (by kernel_rfl) (fun _ _ _ h => h) (Or.inl ⟨by rfl, ?_⟩) (by assumption) ?_
      rotate_left
      · (intro w hSw; (try dsimp only at hSw); go_simp); (try with_reducible rfl)
      try simp only [Act.put, List.setIfInBounds_toArray, List.set_cons_zero, List.set_cons_succ]
      refine wpAnyH_take (i := 4) (oi := { dst := some 0, op := Op.assign (Operand.tmp 7), type := 3, pos := "loop.go:278", after := #[{ on := 0, ground := Ground.data }, { on := 0, ground := Ground.phase }, { on := 1, ground := Ground.phase }, { on := 2, ground := Ground.textOnly Departure.lateStores }, { on := 3, ground := Ground.textOnly Departure.lateStoresUnsure }], guard := none }) (v := ?_) rfl (by kernel_rfl) (by kernel_rfl) (by kernel_rfl) (fun _ _ _ h => h) (Or.inl ⟨by rfl, ?_⟩) (by assumption) ?_
      rotate_left
      · (intro w hSw; (try dsimp only at hSw); go_simp); (try with_reducible rfl)
      try simp only [Act.put, List.setIfInBounds_toArray, List.set_cons_zero]
      refine wpAnyH_take (i := 5) (oi := { dst := some 1, op := Op.assign (Operand.tmp 10), type := 3, pos := "loop.go:278", after := #[{ on := 3, ground := Ground.data }, { on := 4, ground := Ground.chain }, { on := 0, ground := Ground.phase }, { on := 1, ground := Ground.phase }, { on := 2, ground := Ground.phase }, { on := 3, ground := Ground.phase }, { on := 4, ground := Ground.phase }], guard := none }) (v := ?_) rfl (by kernel_rfl) (by kernel_rfl) (by kernel_rfl) (fun _ _ _ h => h) (Or.inl ⟨by rfl, ?_⟩) (by assumption) ?_
      rotate_left
      · (intro w hSw; (try dsimp only at hSw); go_simp); (try with_reducible rfl)
      try simp only [Act.put, List.setIfInBounds_toArray, List.set_cons_zero, List.set_cons_succ]
      refine wpAnyH_done (by kernel_rfl) ?_ _
      clear hHeld0
      go_wp2
      go_roundw
      case rel =>
        have h := HLT.out
        exact ⟨y, x.tmod y, f - 1, rfl, rfl, y1, y2, by omega, by omega, by omega, HG2.out, hbr.drew⟩
      case measure => simp only [intOf]; exact HLT.out

theorem gcdW_ne (f : Nat) (a b : Int) (h : a ≠ 0 ∨ b ≠ 0) (hf : b.natAbs < f) : gcdW f a b ≠ 0 ∧ (gcdW f a b).natAbs ≤ max a.natAbs b.natAbs := by
  induction f generalizing a b with
  | zero => omega
  | succ f ih =>
    rw [gcdW]
    by_cases hb : b = 0
    · rw [if_pos hb]; exact ⟨by rcases h with h | h; exact h; exact absurd hb h, by omega⟩
    · rw [if_neg hb]
      have := tmod_lt a b hb
      obtain ⟨h1, h2⟩ := ih b (a.tmod b) (.inl hb) (by omega)
      exact ⟨h1, by omega⟩
theorem gcdW_le (f : Nat) (a b : Int) : (gcdW f a b).natAbs ≤ max a.natAbs b.natAbs := by
  induction f generalizing a b with
  | zero => rw [gcdW]; omega
  | succ f ih =>
    rw [gcdW]
    by_cases hb : b = 0
    · rw [if_pos hb]; omega
    · rw [if_neg hb]
      have := tmod_lt a b hb
      have := ih b (a.tmod b)
      omega
theorem commonW_bd (a b : Int) (n : Nat) (ha : a.natAbs ≤ n) (hb : b.natAbs ≤ n) (hn : n ≤ 4611686018427387904) : 0 ≤ commonW a b ∧ commonW a b ≤ n ∧ ((a ≠ 0 ∨ b ≠ 0) → 1 ≤ commonW a b) := by
  have h1 := gcdW_le (b.natAbs + 1) a b
  have h2 := fun h => (gcdW_ne (b.natAbs + 1) a b h (by omega)).1
  unfold commonW absW
  generalize gcdW (b.natAbs + 1) a b = g at h1 h2
  rw [IntWalk.wrap64_in (-g) (by omega)]
  refine ⟨by omega, by omega, fun h => ?_⟩
  have := h2 h
  omega

/-- a coefficient of a scaled polynomial, ahead of the division. -/
def scaleK (p : List Int) (num den : Int) (k : Nat) : Int := wrap64 (wrap64 (p[k]?.getD 0 * powW num (p.length - 1 - k)) * powW den k)
def allK (p : List Int) (num den : Int) : Nat → Int
  | 0 => 0
  | k + 1 => commonW (allK p num den k) (scaleK p num den k)
def scaledW (p : List Int) (num den : Int) : List Int := upto (fun k => wrap64 ((scaleK p num den k).tdiv (allK p num den p.length))) p.length

theorem powW_small {a : Int} {n : Nat} (h1 : 1 ≤ a) (h2 : a ≤ 4) (hn : n ≤ 4) : 1 ≤ powW a n ∧ powW a n ≤ 256 := by
  have key : ∀ a : Fin 4, ∀ n : Fin 5, 1 ≤ powW ((a.val : Int) + 1) n.val ∧ powW ((a.val : Int) + 1) n.val ≤ 256 := by decide +kernel
  have := key ⟨(a - 1).toNat, by omega⟩ ⟨n, by omega⟩
  simp only at this
  rw [show (((a - 1).toNat : Nat) : Int) + 1 = a from by omega] at this
  exact this

/-- the polynomial is checked, the numbers are from 1 to 4. -/
structure ScaleP (p : List Int) (num den : Int) : Prop where
  hp : checkPolyE p = 0
  hnum : 1 ≤ num ∧ num ≤ 4
  hden : 1 ≤ den ∧ den ≤ 4

theorem checkPolyE_range {p : List Int} (h : checkPolyE p = 0) : (∀ x ∈ p, -100 ≤ x ∧ x ≤ 100) ∧ p[p.length - 1]?.getD 0 ≠ 0 := by
  have hl := checkPolyE_ok h
  unfold checkPolyE at h
  rw [if_neg (by omega), if_neg (by omega)] at h
  obtain ⟨h1, h2⟩ := firstE_cons_ok h
  obtain ⟨h2, _⟩ := firstE_cons_ok h2
  refine ⟨fun x hx => withinE_ok (firstE_map_ok h1 x hx), fun h0 => ?_⟩
  have := whenE_ok h2 (by decide)
  rw [h0] at this
  simp at this

theorem scaleK_bd {p : List Int} {num den : Int} (h : ScaleP p num den) (k : Nat) (hk : k < p.length) : scaleK p num den k = p[k]?.getD 0 * powW num (p.length - 1 - k) * powW den k ∧ (scaleK p num den k).natAbs ≤ 6553600 := by
  have hl := checkPolyE_ok h.hp
  have hx : -100 ≤ p[k]?.getD 0 ∧ p[k]?.getD 0 ≤ 100 := by
    rw [List.getElem?_eq_getElem hk]
    exact (checkPolyE_range h.hp).1 _ (List.getElem_mem hk)
  have h1 := powW_small (n := p.length - 1 - k) h.hnum.1 h.hnum.2 (by omega)
  have h2 := powW_small (n := k) h.hden.1 h.hden.2 (by omega)
  unfold scaleK
  generalize p[k]?.getD 0 = x at hx
  generalize powW num (p.length - 1 - k) = u at h1
  generalize powW den k = v at h2
  have b1 : (x * u).natAbs ≤ 100 * 256 := by rw [Int.natAbs_mul]; exact Nat.mul_le_mul (by omega) (by omega)
  have b2 : (x * u * v).natAbs ≤ 100 * 256 * 256 := by rw [Int.natAbs_mul]; exact Nat.mul_le_mul b1 (by omega)
  rw [IntWalk.wrap64_in (x * u) (by omega), IntWalk.wrap64_in (x * u * v) (by omega)]
  exact ⟨rfl, b2⟩
theorem allK_bd {p : List Int} {num den : Int} (h : ScaleP p num den) (k : Nat) (hk : k ≤ p.length) : 0 ≤ allK p num den k ∧ allK p num den k ≤ 6553600 := by
  induction k with
  | zero => rw [allK]; omega
  | succ k ih =>
    have h1 := ih (by omega)
    have h2 := (scaleK_bd h k (by omega)).2
    have := commonW_bd (allK p num den k) (scaleK p num den k) 6553600 (by omega) (by omega) (by decide)
    rw [allK]
    exact ⟨this.1, this.2.1⟩
theorem allK_pos {p : List Int} {num den : Int} (h : ScaleP p num den) : 1 ≤ allK p num den p.length := by
  have hl := checkPolyE_ok h.hp
  obtain ⟨n, hn⟩ : ∃ n, p.length = n + 1 := ⟨p.length - 1, by omega⟩
  have h1 := allK_bd h n (by omega)
  obtain ⟨e, h2⟩ := scaleK_bd h n (by omega)
  rw [hn, allK]
  refine (commonW_bd (allK p num den n) (scaleK p num den n) 6553600 (by omega) (by omega) (by decide)).2.2 (.inr ?_)
  have hz := (checkPolyE_range h.hp).2
  rw [hn, Nat.add_sub_cancel] at hz
  have p1 := powW_small (n := p.length - 1 - n) h.hnum.1 h.hnum.2 (by omega)
  have p2 := powW_small (n := n) h.hden.1 h.hden.2 (by omega)
  rw [e]
  exact Int.mul_ne_zero (Int.mul_ne_zero hz (by omega)) (by omega)

/-- what the first loop has laid behind k rounds. -/
def scaleRow (p : List Int) (num den : Int) (k : Nat) : List Int := upto (scaleK p num den) k ++ List.replicate (p.length - k) 0
def divRow (p : List Int) (num den g : Int) (k : Nat) : List Int := upto (fun j => wrap64 ((scaleK p num den j).tdiv g)) k ++ (upto (scaleK p num den) p.length).drop k
theorem scaleRow_set (p : List Int) (num den : Int) (k : Nat) (h : k < p.length) : (scaleRow p num den k).set k (scaleK p num den k) = scaleRow p num den (k + 1) := by
  unfold scaleRow
  rw [List.set_append_right _ _ (by rw [upto_length]; exact Nat.le_refl _), upto_length, Nat.sub_self, show p.length - k = (p.length - (k + 1)) + 1 from by omega, List.replicate_succ, List.set_cons_zero, upto_succ]
  simp
theorem upto_get {α : Type} (f : Nat → α) (n j : Nat) (h : j < n) : (upto f n)[j]? = some (f j) := by simp [upto, h]
theorem scaleRow_get (p : List Int) (num den : Int) (k : Nat) : (scaleRow p num den (k + 1))[k]?.getD 0 = scaleK p num den k := by
  unfold scaleRow
  rw [List.getElem?_append_left (by rw [upto_length]; omega), upto_get _ _ _ (by omega)]; rfl
theorem divRow_set (p : List Int) (num den g : Int) (k : Nat) (h : k < p.length) : (divRow p num den g k).set k (wrap64 ((scaleK p num den k).tdiv g)) = divRow p num den g (k + 1) := by
  unfold divRow
  rw [List.set_append_right _ _ (by rw [upto_length]; exact Nat.le_refl _), upto_length, Nat.sub_self, upto_succ]
  have hd : (upto (scaleK p num den) p.length).drop k = scaleK p num den k :: (upto (scaleK p num den) p.length).drop (k + 1) := by
    rw [List.drop_eq_getElem_cons (by rw [upto_length]; exact h)]
    congr 1
    have := upto_get (scaleK p num den) p.length k h
    rw [List.getElem?_eq_getElem (by rw [upto_length]; exact h)] at this
    exact Option.some.inj this
  rw [hd, List.set_cons_zero]
  simp
theorem divRow_get (p : List Int) (num den g : Int) (k : Nat) (h : k < p.length) : (divRow p num den g k)[k]?.getD 0 = scaleK p num den k := by
  unfold divRow
  rw [List.getElem?_append_right (by rw [upto_length]; exact Nat.le_refl _), upto_length, Nat.sub_self, List.getElem?_drop, Nat.add_zero, upto_get _ _ _ h]; rfl
theorem scaleRow_length (p : List Int) (num den : Int) (k : Nat) (h : k ≤ p.length) : (scaleRow p num den k).length = p.length := by simp [scaleRow, upto_length]; omega
theorem divRow_length (p : List Int) (num den g : Int) (k : Nat) (h : k ≤ p.length) : (divRow p num den g k).length = p.length := by simp [divRow, upto_length]; omega

set_option maxRecDepth 100000 in
set_option maxHeartbeats 2000000 in
theorem scaled_any (v : Value) (p : List Int) (num den : Int) (w : World) (hv : Ints w v p) (hS : ScaleP p num den) :
    Calls Tryz.prog 67 #[v, .int .i64 num, .int .i64 den] w (GivesInts w (scaledW p num den)) := by
  have hl := checkPolyE_ok hS.hp
  obtain ⟨b, o, cap, rfl, hc⟩ := (id hv).head (by omega)
  have dp := degree_i hv (by omega)
  have hmk := run_make_row' (P := Tryz.prog) 30 3 (.int .i64 0) 8 Tryz.underlying30 Tryz.infoInt rfl .i64 .i64 p.length (by omega) (by omega)
  rw [ia_made] at hmk
  have HS := Lib.hid hS
  have DP := Lib.hid dp
  have hC := Lib.hid hc
  clear hS dp hc
  go_enter Tryz.func67, Tryz.ntmps67
  go_wp2_with fail
  refine (DP.out _).mono ?_
  rintro e w' ⟨rfl, rfl⟩
  go_wp2_with fail
  clear hmk
  have hB0 := below_new w (.cells (ia (List.replicate p.length 0)) 3)
  have hC0 := BlkI.new w 3 (List.replicate p.length 0)
  obtain ⟨W, hW⟩ : ∃ W, W = w.alloc (.cells (ia (List.replicate p.length 0)) 3) := ⟨_, rfl⟩
  rw [← hW] at hB0 hC0 ⊢
  clear hW
  have hl1 : 1 ≤ p.length := hl.1
  have hl5 : p.length ≤ 5 := hl.2
  go_loopw [9, 20] (fun va vk wr => ∃ k : Nat, k ≤ p.length ∧ vk = .int .i64 k ∧ va = .int .i64 (allK p num den k) ∧ Below w.heap.size w wr ∧ BlkI wr w.heap.size 3 (scaleRow p num den k)) (fun _ vk _ => p.length - (intOf vk).toNat)
  case atStart => exact ⟨0, by omega, rfl, rfl, hB0, by simpa [scaleRow, upto] using hC0⟩
  case round =>
    obtain ⟨k, hk, rfl, rfl, hbr, hcr⟩ := hrel
    by_cases hlt : k < p.length
    · have cA := cellb (hC.out k hlt) hbr
      have hsl := scaleRow_length p num den k (by omega)
      have hset := scaleRow_set p num den k hlt
      have hget := scaleRow_get p num den k
      have hlen1 := scaleRow_length p num den (k + 1) (by omega)
      have hfo := Blk.frozen hcr k
      have hco := BlkI.cell hcr (j := k) (by omega)
      have hK : scaleK p num den k = wrap64 (wrap64 (p[k]?.getD 0 * powW num (p.length - 1 - k)) * powW den k) := rfl
      have hcm := common_any (allK p num den k) (scaleK p num den k)
      have hb1 := allK_bd HS.out k (by omega)
      have hb2 := (scaleK_bd HS.out k hlt).2
      have hA : commonW (allK p num den k) (scaleK p num den k) = allK p num den (k + 1) := rfl
      rw [hA] at hcm
      have hp1 := power_any num (p.length - 1 - k)
      have hp2 := power_any den k
      generalize allK p num den k = al at hcm hb1 ⊢
      generalize hal : allK p num den (k + 1) = al1 at hcm
      have HAL := Lib.hid hal
      clear hal
      have HX := Lib.hid hK
      generalize scaleK p num den k = X at hset hget hcm hb2 HX
      generalize p[k]?.getD 0 = x at cA HX
      generalize powW num (p.length - 1 - k) = u at HX hp1
      generalize powW den k = u2 at HX hp2
      have HSet := Lib.hid hset
      have HGet := Lib.hid hget
      have HCM := Lib.hid hcm
      have HP1 := Lib.hid hp1
      have HP2 := Lib.hid hp2
      have HL1 := Lib.hid hlen1
      have HSL := Lib.hid hsl
      have HB1 := Lib.hid hb1
      have HB2 := Lib.hid hb2
      clear hK hA hset hget hcm hp1 hp2 hlen1 hsl hb1 hb2
      have e3 : (p.length : Int) - 1 - (k : Int) = ((p.length - 1 - k : Nat) : Int) := by omega
      go_wp2_with fail
      refine (HP1.out _ (by omega)).mono ?_
      rintro e w1 ⟨rfl, rfl⟩
      go_wp2_with fail
      refine (HP2.out _ (by omega)).mono ?_
      rintro e w2 ⟨rfl, rfl⟩
      go_wp2_with fail
      rw [← HX.out]
      have hcr2 := BlkI.set hcr k X
      rw [HSet.out] at hcr2
      have hbr2 := hbr.setCell (p := ⟨w.heap.size, k, none⟩) (by exact Nat.le_refl _) (.int .i64 X)
      obtain ⟨V, hV⟩ : ∃ V, V = wr.setCell ⟨w.heap.size, k, none⟩ (.int .i64 X) := ⟨_, rfl⟩
      rw [← hV] at hcr2 hbr2 ⊢
      clear hV hcr hco hfo hbr
      have q1 := HB1.out
      have q2 := HB2.out
      refine (HCM.out _ (by omega) (by omega)).mono ?_
      clear q1 q2
      rintro e w3 ⟨rfl, hb3⟩
      go_wp2
      go_roundw
      case rel => exact ⟨k + 1, by omega, by go_num, by rw [HAL.out], hbr2.trans (hb3.mono hbr2.size), Blk.carry hcr2 hb3⟩
      case measure => simp [intOf]; omega
    · obtain rfl : k = p.length := by omega
      have hcr0 : BlkI wr w.heap.size 3 (divRow p num den (allK p num den p.length) 0) := by simpa [scaleRow, divRow, upto] using hcr
      have hg1 := allK_pos HS.out
      have hg2 := (allK_bd HS.out p.length (Nat.le_refl _)).2
      clear hcr
      go_wp2_with fail
      obtain ⟨g, hgd⟩ : ∃ g, g = allK p num den p.length := ⟨_, rfl⟩
      rw [← hgd] at hcr0 hg1 hg2 ⊢
      obtain ⟨wo, rfl⟩ : ∃ wo, wo = wr := ⟨_, rfl⟩
      have HGD := Lib.hid hgd
      clear hgd
      go_loopw [48] (fun vk wr => ∃ k : Nat, k ≤ p.length ∧ vk = .int .i64 k ∧ Below w.heap.size w wr ∧ BlkI wr w.heap.size 3 (divRow p num den g k)) (fun vk _ => p.length - (intOf vk).toNat)
      case atStart => exact ⟨0, by omega, rfl, hbr, hcr0⟩
      case round =>
        obtain ⟨k, hk, rfl, hb2, hcr⟩ := hrel
        by_cases hlt : k < p.length
        · have hdl := divRow_length p num den g k (by omega)
          have hfo := Blk.frozen hcr k
          have hco := BlkI.cell hcr (j := k) (by omega)
          rw [divRow_get p num den g k hlt] at hco
          have hset := divRow_set p num den g k hlt
          have hb3 := (scaleK_bd HS.out k hlt).2
          generalize scaleK p num den k = X at hco hset hb3
          have hq : (X.tdiv g).natAbs ≤ X.natAbs := by rw [Int.natAbs_tdiv]; exact Nat.div_le_self _ _
          rw [IntWalk.wrap64_in (X.tdiv g) (by omega)] at hset
          have HSet := Lib.hid hset
          have HDL := Lib.hid hdl
          clear hq
          have x1 : -6553600 ≤ X := by omega
          have x2 : X ≤ 6553600 := by omega
          clear hset hdl hcr0 hb3
          go_wp2
          go_roundw
          case rel =>
            have h := BlkI.set hcr k (X.tdiv g)
            rw [HSet.out] at h
            exact ⟨k + 1, by omega, by go_num, hb2.setCell (p := ⟨w.heap.size, k, none⟩) (by exact Nat.le_refl _) _, h⟩
          case measure => simp [intOf]; omega
        · obtain rfl : k = p.length := by omega
          have hfin : divRow p num den g p.length = scaledW p num den := by rw [HGD.out]; simp [divRow, scaledW, upto_length]
          rw [hfin] at hcr
          have hsl : (scaledW p num den).length = p.length := upto_length _ _
          have HI := Lib.hid (BlkI.ints hcr hsl.symm)
          clear hfin hsl hcr hcr0
          go_wp2
          go_ret
          exact ⟨⟨_, rfl, HI.out⟩, hb2⟩

def ratioE (num den : Int) : Int := firstE [withinE num 1 4, withinE den 1 4, whenE (commonW num den != 1) 1]

set_option maxHeartbeats 1000000 in
theorem checkRatio_any (num den : Int) (w : World) (h1 : -9223372036854775808 ≤ num ∧ num ≤ 9223372036854775807) (h2 : -9223372036854775808 ≤ den ∧ den ≤ 9223372036854775807) :
    Calls Tryz.prog 66 #[.agg #[.int .i64 num, .int .i64 den]] w fun e w' => e = .returned (.int .i64 (ratioE num den)) ∧ Below w.heap.size w w' := by
  have H1 := Lib.hid h1
  have H2 := Lib.hid h2
  clear h1 h2
  go_enter Tryz.func66, Tryz.ntmps66
  go_wp2_with fail
  have hB := below_new w (.cells #[.int .i64 num, .int .i64 den] 75)
  have hx := Box2.new w 75 (.int .i64 num) (.int .i64 den)
  obtain ⟨W, hW⟩ : ∃ W, W = w.alloc (.cells #[.int .i64 num, .int .i64 den] 75) := ⟨_, rfl⟩
  rw [← hW] at hB hx ⊢
  clear hW
  have HX := Lib.hid hx
  obtain ⟨c0, c1, _, _⟩ := hx
  refine wp_region_held_drew (S := (fun w' => w'.cell? ⟨w.heap.size, 0, none⟩ = some (.int .i64 num) ∧ w'.cell? ⟨w.heap.size, 1, none⟩ = some (.int .i64 den))) (by kernel_rfl) ?_ (fun hHeld0 => ?_)
  · (try dsimp only); (first | go_keep | exact ⟨(HX.out.below h2 HX.out.lt).c0, (HX.out.below h2 HX.out.lt).c1⟩)
  refine wpAnyH_take (i := 0) (oi := { dst := some 3, op := Op.fieldAddr 75 (Operand.tmp 1) 0, type := 0, pos := "loop.go:309", after := #[], guard := none }) (v := ?_) rfl (by kernel_rfl) (by kernel_rfl) (by kernel_rfl) (fun _ _ _ h => h) (Or.inl ⟨by rfl, ?_⟩) (by assumption) ?_
  rotate_left
  · (intro w hSw; (try dsimp only at hSw); go_simp); (try with_reducible rfl)
  try simp only [Act.put, List.setIfInBounds_toArray, List.set_cons_zero, List.set_cons_succ]
  refine wpAnyH_take (i := 1) (oi := { dst := some 4, op := Op.load 3 (Operand.tmp 3), type := 3, pos := "loop.go:309", after := #[{ on := 0, ground := Ground.data }], guard := none }) (v := ?_) rfl (by kernel_rfl) (by kernel_rfl) (by kernel_rfl) (fun _ _ _ h => h) (Or.inl ⟨by rfl, ?_⟩) (by assumption) ?_
  rotate_left
  · (intro w hSw; (try dsimp only at hSw); go_simp); (try with_reducible rfl)
  try simp only [Act.put, List.setIfInBounds_toArray, List.set_cons_zero, List.set_cons_succ]
  refine wpAnyH_take (i := 3) (oi := { dst := some 6, op := Op.fieldAddr 75 (Operand.tmp 1) 1, type := 0, pos := "loop.go:309", after := #[], guard := none }) (v := ?_) rfl (by kernel_rfl) (by kernel_rfl) (by kernel_rfl) (fun _ _ _ h => h) (Or.inl ⟨by rfl, ?_⟩) (by assumption) ?_
  rotate_left
  · (intro w hSw; (try dsimp only at hSw); go_simp); (try with_reducible rfl)
  try simp only [Act.put, List.setIfInBounds_toArray, List.set_cons_zero, List.set_cons_succ]
  refine wpAnyH_take (i := 4) (oi := { dst := some 7, op := Op.load 3 (Operand.tmp 6), type := 3, pos := "loop.go:309", after := #[{ on := 3, ground := Ground.data }], guard := none }) (v := ?_) rfl (by kernel_rfl) (by kernel_rfl) (by kernel_rfl) (fun _ _ _ h => h) (Or.inl ⟨by rfl, ?_⟩) (by assumption) ?_
  rotate_left
  · (intro w hSw; (try dsimp only at hSw); go_simp); (try with_reducible rfl)
  try simp only [Act.put, List.setIfInBounds_toArray, List.set_cons_zero, List.set_cons_succ]
  refine wpAnyH_take (i := 6) (oi := { dst := some 9, op := Op.fieldAddr 75 (Operand.tmp 1) 0, type := 0, pos := "loop.go:309", after := #[], guard := none }) (v := ?_) rfl (by kernel_rfl) (by kernel_rfl) (by kernel_rfl) (fun _ _ _ h => h) (Or.inl ⟨by rfl, ?_⟩) (by assumption) ?_
  rotate_left
  · (intro w hSw; (try dsimp only at hSw); go_simp); (try with_reducible rfl)
  try simp only [Act.put, List.setIfInBounds_toArray, List.set_cons_zero, List.set_cons_succ]
  refine wpAnyH_take (i := 7) (oi := { dst := some 10, op := Op.load 3 (Operand.tmp 9), type := 3, pos := "loop.go:309", after := #[{ on := 6, ground := Ground.data }], guard := none }) (v := ?_) rfl (by kernel_rfl) (by kernel_rfl) (by kernel_rfl) (fun _ _ _ h => h) (Or.inl ⟨by rfl, ?_⟩) (by assumption) ?_
  rotate_left
  · (intro w hSw; (try dsimp only at hSw); go_simp); (try with_reducible rfl)
  try simp only [Act.put, List.setIfInBounds_toArray, List.set_cons_zero, List.set_cons_succ]
  refine wpAnyH_take (i := 8) (oi := { dst := some 11, op := Op.fieldAddr 75 (Operand.tmp 1) 1, type := 0, pos := "loop.go:309", after := #[], guard := none }) (v := ?_) rfl (by kernel_rfl) (by kernel_rfl) (by kernel_rfl) (fun _ _ _ h => h) (Or.inl ⟨by rfl, ?_⟩) (by assumption) ?_
  rotate_left
  · (intro w hSw; (try dsimp only at hSw); go_simp); (try with_reducible rfl)
  try simp only [Act.put, List.setIfInBounds_toArray, List.set_cons_zero, List.set_cons_succ]
  refine wpAnyH_take (i := 9) (oi := { dst := some 12, op := Op.load 3 (Operand.tmp 11), type := 3, pos := "loop.go:309", after := #[{ on := 8, ground := Ground.data }], guard := none }) (v := ?_) rfl (by kernel_rfl) (by kernel_rfl) (by kernel_rfl) (fun _ _ _ h => h) (Or.inl ⟨by rfl, ?_⟩) (by assumption) ?_
  rotate_left
  · (intro w hSw; (try dsimp only at hSw); go_simp); (try with_reducible rfl)
  try simp only [Act.put, List.setIfInBounds_toArray, List.set_cons_zero, List.set_cons_succ]
  refine wpAnyH_ready (rs := [2]) (by kernel_rfl) (by simp) ?_
  refine (AllReadyH.cons (o := { dst := some 5, op := Op.call { callee := Callee.value (Operand.func 57), args := #[Operand.tmp 4, Operand.const (Value.int IntKind.i64 1), Operand.const (Value.int IntKind.i64 4)], argTypes := #[3, 3, 3] }, type := 27, pos := "loop.go:309", after := #[{ on := 1, ground := Ground.data }], guard := none }) rfl (fun K hK => ?_) AllReadyH.nil)
  go_simp
  (first | (go_at_call 57; (with_reducible refine (within_any _ _ _ _).mono ?_); rintro e w' ⟨rfl, rfl⟩) | (go_at_call 107; (with_reducible refine (common_any num den _ H1.out H2.out).mono ?_); rintro e w2 ⟨rfl, h2'⟩; have h2 := below_drew h2'; clear h2') | (go_at_call 46; (with_reducible refine (when_any _ _ _).mono ?_); rintro e w' ⟨rfl, rfl⟩) | (go_at_call 45; (with_reducible refine (first3 _ _ _ _ _).mono ?_); rintro e w' ⟨rfl, rfl⟩))
  (try go_wp2_with fail)
  refine hK.out _ _ ?_ (fun hHeld1 => ?_)
  · (try dsimp only); (first | go_keep | exact ⟨(HX.out.below h2 HX.out.lt).c0, (HX.out.below h2 HX.out.lt).c1⟩)
  clear hK K hHeld0
  try simp only [Act.put, List.setIfInBounds_toArray, List.set_cons_zero, List.set_cons_succ]
  refine wpAnyH_ready (rs := [5]) (by kernel_rfl) (by simp) ?_
  refine (AllReadyH.cons (o := { dst := some 8, op := Op.call { callee := Callee.value (Operand.func 57), args := #[Operand.tmp 7, Operand.const (Value.int IntKind.i64 1), Operand.const (Value.int IntKind.i64 4)], argTypes := #[3, 3, 3] }, type := 27, pos := "loop.go:309", after := #[{ on := 4, ground := Ground.data }, { on := 2, ground := Ground.chain }], guard := none }) rfl (fun K hK => ?_) AllReadyH.nil)
  go_simp
  (first | (go_at_call 57; (with_reducible refine (within_any _ _ _ _).mono ?_); rintro e w' ⟨rfl, rfl⟩) | (go_at_call 107; (with_reducible refine (common_any num den _ H1.out H2.out).mono ?_); rintro e w2 ⟨rfl, h2'⟩; have h2 := below_drew h2'; clear h2') | (go_at_call 46; (with_reducible refine (when_any _ _ _).mono ?_); rintro e w' ⟨rfl, rfl⟩) | (go_at_call 45; (with_reducible refine (first3 _ _ _ _ _).mono ?_); rintro e w' ⟨rfl, rfl⟩))
  (try go_wp2_with fail)
  refine hK.out _ _ ?_ (fun hHeld2 => ?_)
  · (try dsimp only); (first | go_keep | exact ⟨(HX.out.below h2 HX.out.lt).c0, (HX.out.below h2 HX.out.lt).c1⟩)
  clear hK K hHeld1
  try simp only [Act.put, List.setIfInBounds_toArray, List.set_cons_zero, List.set_cons_succ]
  refine wpAnyH_ready (rs := [10]) (by kernel_rfl) (by simp) ?_
  refine (AllReadyH.cons (o := { dst := some 13, op := Op.call { callee := Callee.value (Operand.func 107), args := #[Operand.tmp 10, Operand.tmp 12], argTypes := #[3, 3] }, type := 3, pos := "loop.go:309", after := #[{ on := 7, ground := Ground.data }, { on := 9, ground := Ground.data }, { on := 5, ground := Ground.chain }], guard := none }) rfl (fun K hK => ?_) AllReadyH.nil)
  go_simp
  (first | (go_at_call 57; (with_reducible refine (within_any _ _ _ _).mono ?_); rintro e w' ⟨rfl, rfl⟩) | (go_at_call 107; (with_reducible refine (common_any num den _ H1.out H2.out).mono ?_); rintro e w2 ⟨rfl, h2'⟩; have h2 := below_drew h2'; clear h2') | (go_at_call 46; (with_reducible refine (when_any _ _ _).mono ?_); rintro e w' ⟨rfl, rfl⟩) | (go_at_call 45; (with_reducible refine (first3 _ _ _ _ _).mono ?_); rintro e w' ⟨rfl, rfl⟩))
  (try go_wp2_with fail)
  refine hK.out _ _ ?_ (fun hHeld3 => ?_)
  · (try dsimp only); (first | go_keep | exact ⟨(HX.out.below h2 HX.out.lt).c0, (HX.out.below h2 HX.out.lt).c1⟩)
  clear hK K hHeld2
  try simp only [Act.put, List.setIfInBounds_toArray, List.set_cons_zero, List.set_cons_succ]
  refine wpAnyH_take (i := 11) (oi := { dst := some 14, op := Op.binOp BinOp.neq 3 (Operand.tmp 13) (Operand.const (Value.int IntKind.i64 1)) 3, type := 4, pos := "loop.go:309", after := #[{ on := 10, ground := Ground.data }], guard := none }) (v := ?_) rfl (by kernel_rfl) (by kernel_rfl) (by kernel_rfl) (fun _ _ _ h => h) (Or.inl ⟨by rfl, ?_⟩) (by assumption) ?_
  rotate_left
  · (intro w hSw; (try dsimp only at hSw); go_simp); (try with_reducible rfl)
  try simp only [Act.put, List.setIfInBounds_toArray, List.set_cons_zero, List.set_cons_succ]
  refine wpAnyH_ready (rs := [12]) (by kernel_rfl) (by simp) ?_
  refine (AllReadyH.cons (o := { dst := some 15, op := Op.call { callee := Callee.value (Operand.func 46), args := #[Operand.tmp 14, Operand.const (Value.int IntKind.i64 1)], argTypes := #[4, 27] }, type := 27, pos := "loop.go:309", after := #[{ on := 11, ground := Ground.data }, { on := 10, ground := Ground.chain }], guard := none }) rfl (fun K hK => ?_) AllReadyH.nil)
  go_simp
  (first | (go_at_call 57; (with_reducible refine (within_any _ _ _ _).mono ?_); rintro e w' ⟨rfl, rfl⟩) | (go_at_call 107; (with_reducible refine (common_any num den _ H1.out H2.out).mono ?_); rintro e w2 ⟨rfl, h2'⟩; have h2 := below_drew h2'; clear h2') | (go_at_call 46; (with_reducible refine (when_any _ _ _).mono ?_); rintro e w' ⟨rfl, rfl⟩) | (go_at_call 45; (with_reducible refine (first3 _ _ _ _ _).mono ?_); rintro e w' ⟨rfl, rfl⟩))
  (try go_wp2_with fail)
  refine hK.out _ _ ?_ (fun hHeld4 => ?_)
  · (try dsimp only); (first | go_keep | exact ⟨(HX.out.below h2 HX.out.lt).c0, (HX.out.below h2 HX.out.lt).c1⟩)
  clear hK K hHeld3
  try simp only [Act.put, List.setIfInBounds_toArray, List.set_cons_zero, List.set_cons_succ]
  refine wpAnyH_ready (rs := [13]) (by kernel_rfl) (by simp) ?_
  refine (AllReadyH.cons (o := { dst := some 16, op := Op.buildSlice 155 3 #[(0, Operand.tmp 5), (1, Operand.tmp 8), (2, Operand.tmp 15)], type := 155, pos := "loop.go:309", after := #[{ on := 2, ground := Ground.data }, { on := 5, ground := Ground.data }, { on := 12, ground := Ground.data }], guard := none }) rfl (fun K hK => ?_) AllReadyH.nil)
  go_simp
  refine hK.out _ _ ?_ (fun hHeld5 => ?_)
  · (try dsimp only); (first | go_keep | exact ⟨(HX.out.below h2 HX.out.lt).c0, (HX.out.below h2 HX.out.lt).c1⟩)
  clear hK K hHeld4
  try simp only [Act.put, List.setIfInBounds_toArray, List.set_cons_zero, List.set_cons_succ]
  refine wpAnyH_ready (rs := [14]) (by kernel_rfl) (by simp) ?_
  refine (AllReadyH.cons (o := { dst := some 17, op := Op.call { callee := Callee.value (Operand.func 45), args := #[Operand.tmp 16], argTypes := #[155] }, type := 27, pos := "loop.go:309", after := #[{ on := 13, ground := Ground.data }, { on := 12, ground := Ground.chain }], guard := none }) rfl (fun K hK => ?_) AllReadyH.nil)
  go_simp
  (first | (go_at_call 57; (with_reducible refine (within_any _ _ _ _).mono ?_); rintro e w' ⟨rfl, rfl⟩) | (go_at_call 107; (with_reducible refine (common_any num den _ H1.out H2.out).mono ?_); rintro e w2 ⟨rfl, h2'⟩; have h2 := below_drew h2'; clear h2') | (go_at_call 46; (with_reducible refine (when_any _ _ _).mono ?_); rintro e w' ⟨rfl, rfl⟩) | (go_at_call 45; (with_reducible refine (first3 _ _ _ _ _).mono ?_); rintro e w' ⟨rfl, rfl⟩))
  (try go_wp2_with fail)
  refine hK.out _ _ ?_ (fun hHeld6 => ?_)
  · (try dsimp only); (first | go_keep | exact ⟨(HX.out.below h2 HX.out.lt).c0, (HX.out.below h2 HX.out.lt).c1⟩)
  clear hK K hHeld5
  try simp only [Act.put, List.setIfInBounds_toArray, List.set_cons_zero, List.set_cons_succ]
  refine wpAnyH_take (i := 15) (oi := { dst := some 2, op := Op.assign (Operand.tmp 17), type := 27, pos := "loop.go:309", after := #[{ on := 14, ground := Ground.data }, { on := 14, ground := Ground.chain }, { on := 0, ground := Ground.phase }, { on := 1, ground := Ground.phase }, { on := 2, ground := Ground.phase }, { on := 3, ground := Ground.phase }, { on := 4, ground := Ground.phase }, { on := 5, ground := Ground.phase }, { on := 6, ground := Ground.phase }, { on := 7, ground := Ground.phase }, { on := 8, ground := Ground.phase }, { on := 9, ground := Ground.phase }, { on := 10, ground := Ground.phase }, { on := 11, ground := Ground.phase }, { on := 12, ground := Ground.phase }, { on := 13, ground := Ground.phase }, { on := 14, ground := Ground.phase }], guard := none }) (v := ?_) rfl (by kernel_rfl) (by kernel_rfl) (by kernel_rfl) (fun _ _ _ h => h) (Or.inl ⟨by rfl, ?_⟩) (by assumption) ?_
  rotate_left
  · (intro w hSw; (try dsimp only at hSw); go_simp); (try with_reducible rfl)
  try simp only [Act.put, List.setIfInBounds_toArray, List.set_cons_zero, List.set_cons_succ]
  refine wpAnyH_done (by kernel_rfl) ?_ _
  clear hHeld6
  go_wp2
  go_ret
  exact ⟨rfl, bthen hB (h2.alloc h2.size _)⟩

def scal1E (p : List Int) (num den : Int) : Int := firstE [checkPolyE p, ratioE num den]
theorem scal1E_ok {p : List Int} {num den : Int} (h : scal1E p num den = 0) : ScaleP p num den ∧ ScaleP p den num := by
  obtain ⟨h1, h⟩ := firstE_cons_ok h
  obtain ⟨h2, _⟩ := firstE_cons_ok h
  obtain ⟨h3, h2⟩ := firstE_cons_ok h2
  obtain ⟨h4, _⟩ := firstE_cons_ok h2
  exact ⟨⟨h1, withinE_ok h3, withinE_ok h4⟩, ⟨h1, withinE_ok h4, withinE_ok h3⟩⟩
def scaledE (p : List Int) (num den : Int) : Int := if scal1E p num den ≠ 0 then scal1E p num den else if (scaledW p num den).any largeB then 4 else 0
def scaledR (p : List Int) (num den : Int) : List Int := if scaledE p num den ≠ 0 then [] else scaledW p num den

set_option maxHeartbeats 2000000 in
theorem Scaled_any (v : Value) (p : List Int) (num den : Int) (w : World) (hv : Ints w v p) (hl : p.length ≤ 100000) (h1 : -9223372036854775808 ≤ num ∧ num ≤ 9223372036854775807) (h2 : -9223372036854775808 ≤ den ∧ den ≤ 9223372036854775807) :
    Calls Tryz.prog 27 #[v, .agg #[.int .i64 num, .int .i64 den]] w (GivesPoly w (scaledR p num den) (scaledE p num den)) := by
  have H1 := Lib.hid h1
  have H2 := Lib.hid h2
  clear h1 h2
  go_enter Tryz.func27, Tryz.ntmps27
  go_wp2_with fail
  have hB := below_new w (.cells #[.int .i64 num, .int .i64 den] 75)
  have hx := Box2.new w 75 (.int .i64 num) (.int .i64 den)
  obtain ⟨W, hW⟩ : ∃ W, W = w.alloc (.cells #[.int .i64 num, .int .i64 den] 75) := ⟨_, rfl⟩
  rw [← hW] at hB hx ⊢
  clear hW
  have HX := Lib.hid hx
  obtain ⟨c0, c1, _, _⟩ := hx
  have t1 := Lib.hid (CheckPoly_any v p W.drew (by omega) (hv.below hB).drew)
  refine wp_region_held_drew (S := (fun w' => w'.cell? ⟨w.heap.size, 0, none⟩ = some (.int .i64 num) ∧ w'.cell? ⟨w.heap.size, 1, none⟩ = some (.int .i64 den))) (by kernel_rfl) ?_ (fun hHeld0 => ?_)
  · (try dsimp only); (first | go_keep | exact ⟨(HX.out.below h2 HX.out.lt).c0, (HX.out.below h2 HX.out.lt).c1⟩ | exact ⟨(HX.out.below h3 HX.out.lt).c0, (HX.out.below h3 HX.out.lt).c1⟩)
  refine wpAnyH_take (i := 0) (oi := { dst := some 7, op := Op.move (Operand.tmp 0), type := 30, pos := "loop.go:314", after := #[], guard := none }) (v := ?_) rfl (by kernel_rfl) (by kernel_rfl) (by kernel_rfl) (fun _ _ _ h => h) (Or.inl ⟨by rfl, ?_⟩) (by assumption) ?_
  rotate_left
  · (intro w hSw; (try dsimp only at hSw); go_simp); (try with_reducible rfl)
  try simp only [Act.put, List.setIfInBounds_toArray, List.set_cons_zero, List.set_cons_succ]
  refine wpAnyH_take (i := 2) (oi := { dst := some 9, op := Op.load 75 (Operand.tmp 3), type := 75, pos := "loop.go:314", after := #[], guard := none }) (v := ?_) rfl (by kernel_rfl) (by kernel_rfl) (by kernel_rfl) (fun _ _ _ h => h) (Or.inl ⟨by rfl, ?_⟩) (by assumption) ?_
  rotate_left
  · (intro w hSw; (try dsimp only at hSw); go_simp); (try with_reducible rfl)
  try simp only [Act.put, List.setIfInBounds_toArray, List.set_cons_zero, List.set_cons_succ]
  refine wpAnyH_ready (rs := [1]) (by kernel_rfl) (by simp) ?_
  refine (AllReadyH.cons (o := { dst := some 8, op := Op.call { callee := Callee.value (Operand.func 54), args := #[Operand.tmp 7], argTypes := #[30] }, type := 27, pos := "loop.go:314", after := #[{ on := 0, ground := Ground.data }], guard := none }) rfl (fun K hK => ?_) AllReadyH.nil)
  go_simp
  (first | (go_at_call 54; (with_reducible refine t1.out.mono ?_); rintro e w2 ⟨rfl, h2'⟩; have h2 := below_drew h2'; clear h2') | (go_at_call 66; (with_reducible refine (checkRatio_any num den _ H1.out H2.out).mono ?_); rintro e w3 ⟨rfl, h3'⟩; have h3 := bthen h2 h3'; clear h3') | (go_at_call 45; (with_reducible refine (first2 _ _ _ _).mono ?_); rintro e w' ⟨rfl, rfl⟩))
  (try go_wp2_with fail)
  refine hK.out _ _ ?_ (fun hHeld1 => ?_)
  · (try dsimp only); (first | go_keep | exact ⟨(HX.out.below h2 HX.out.lt).c0, (HX.out.below h2 HX.out.lt).c1⟩ | exact ⟨(HX.out.below h3 HX.out.lt).c0, (HX.out.below h3 HX.out.lt).c1⟩)
  clear hK K hHeld0
  try simp only [Act.put, List.setIfInBounds_toArray, List.set_cons_zero, List.set_cons_succ]
  refine wpAnyH_ready (rs := [3]) (by kernel_rfl) (by simp) ?_
  refine (AllReadyH.cons (o := { dst := some 10, op := Op.call { callee := Callee.value (Operand.func 66), args := #[Operand.tmp 9], argTypes := #[75] }, type := 27, pos := "loop.go:314", after := #[{ on := 2, ground := Ground.data }, { on := 1, ground := Ground.chain }], guard := none }) rfl (fun K hK => ?_) AllReadyH.nil)
  go_simp
  (first | (go_at_call 54; (with_reducible refine t1.out.mono ?_); rintro e w2 ⟨rfl, h2'⟩; have h2 := below_drew h2'; clear h2') | (go_at_call 66; (with_reducible refine (checkRatio_any num den _ H1.out H2.out).mono ?_); rintro e w3 ⟨rfl, h3'⟩; have h3 := bthen h2 h3'; clear h3') | (go_at_call 45; (with_reducible refine (first2 _ _ _ _).mono ?_); rintro e w' ⟨rfl, rfl⟩))
  (try go_wp2_with fail)
  refine hK.out _ _ ?_ (fun hHeld2 => ?_)
  · (try dsimp only); (first | go_keep | exact ⟨(HX.out.below h2 HX.out.lt).c0, (HX.out.below h2 HX.out.lt).c1⟩ | exact ⟨(HX.out.below h3 HX.out.lt).c0, (HX.out.below h3 HX.out.lt).c1⟩)
  clear hK K hHeld1
  try simp only [Act.put, List.setIfInBounds_toArray, List.set_cons_zero, List.set_cons_succ]
  refine wpAnyH_ready (rs := [4]) (by kernel_rfl) (by simp) ?_
  refine (AllReadyH.cons (o := { dst := some 11, op := Op.buildSlice 155 2 #[(0, Operand.tmp 8), (1, Operand.tmp 10)], type := 155, pos := "loop.go:314", after := #[{ on := 1, ground := Ground.data }, { on := 3, ground := Ground.data }], guard := none }) rfl (fun K hK => ?_) AllReadyH.nil)
  go_simp
  refine hK.out _ _ ?_ (fun hHeld3 => ?_)
  · (try dsimp only); (first | go_keep | exact ⟨(HX.out.below h2 HX.out.lt).c0, (HX.out.below h2 HX.out.lt).c1⟩ | exact ⟨(HX.out.below h3 HX.out.lt).c0, (HX.out.below h3 HX.out.lt).c1⟩)
  clear hK K hHeld2
  try simp only [Act.put, List.setIfInBounds_toArray, List.set_cons_zero, List.set_cons_succ]
  refine wpAnyH_ready (rs := [5]) (by kernel_rfl) (by simp) ?_
  refine (AllReadyH.cons (o := { dst := some 12, op := Op.call { callee := Callee.value (Operand.func 45), args := #[Operand.tmp 11], argTypes := #[155] }, type := 27, pos := "loop.go:314", after := #[{ on := 4, ground := Ground.data }, { on := 3, ground := Ground.chain }], guard := none }) rfl (fun K hK => ?_) AllReadyH.nil)
  go_simp
  (first | (go_at_call 54; (with_reducible refine t1.out.mono ?_); rintro e w2 ⟨rfl, h2'⟩; have h2 := below_drew h2'; clear h2') | (go_at_call 66; (with_reducible refine (checkRatio_any num den _ H1.out H2.out).mono ?_); rintro e w3 ⟨rfl, h3'⟩; have h3 := bthen h2 h3'; clear h3') | (go_at_call 45; (with_reducible refine (first2 _ _ _ _).mono ?_); rintro e w' ⟨rfl, rfl⟩))
  (try go_wp2_with fail)
  refine hK.out _ _ ?_ (fun hHeld4 => ?_)
  · (try dsimp only); (first | go_keep | exact ⟨(HX.out.below h2 HX.out.lt).c0, (HX.out.below h2 HX.out.lt).c1⟩ | exact ⟨(HX.out.below h3 HX.out.lt).c0, (HX.out.below h3 HX.out.lt).c1⟩)
  clear hK K hHeld3
  try simp only [Act.put, List.setIfInBounds_toArray, List.set_cons_zero, List.set_cons_succ]
  refine wpAnyH_take (i := 6) (oi := { dst := some 6, op := Op.assign (Operand.tmp 12), type := 27, pos := "loop.go:314", after := #[{ on := 5, ground := Ground.data }, { on := 5, ground := Ground.chain }, { on := 0, ground := Ground.phase }, { on := 1, ground := Ground.phase }, { on := 2, ground := Ground.phase }, { on := 3, ground := Ground.phase }, { on := 4, ground := Ground.phase }, { on := 5, ground := Ground.phase }], guard := none }) (v := ?_) rfl (by kernel_rfl) (by kernel_rfl) (by kernel_rfl) (fun _ _ _ h => h) (Or.inl ⟨by rfl, ?_⟩) (by assumption) ?_
  rotate_left
  · (intro w hSw; (try dsimp only at hSw); go_simp); (try with_reducible rfl)
  try simp only [Act.put, List.setIfInBounds_toArray, List.set_cons_zero, List.set_cons_succ]
  refine wpAnyH_done (by kernel_rfl) ?_ _
  clear hHeld4
  have h4 := bthen h3 (below_new w3 (.cells #[.int .i64 (checkPolyE p), .int .i64 (ratioE num den)] 27))
  have hV := bthen hB h4
  have hxV := HX.out.below h4 HX.out.lt
  generalize w3.alloc _ = V at h4 hV hxV ⊢
  have hE : firstE [checkPolyE p, ratioE num den] = scal1E p num den := rfl
  rw [hE]
  clear c0 c1 h2 h3 t1 HX hE hB h4
  by_cases he : scal1E p num den = 0
  · have hS := Lib.hid (scal1E_ok he).1
    have HR := Lib.hid (show scaledE p num den = if (scaledW p num den).any largeB then 4 else 0 by rw [scaledE, if_neg (by rw [he]; simp)])
    rw [he]
    clear he
    obtain ⟨c0, c1, _, _⟩ := hxV
    have hlen : (scaledW p num den).length ≤ 1000000 := by unfold scaledW; rw [upto_length]; omega
    go_wp2_with fail
    refine (scaled_any v p num den V (hv.below hV) hS.out).mono ?_
    rintro e w4 ⟨⟨u, rfl, hu⟩, h5⟩
    have hV4 := bthen hV h5
    clear c0 c1
    by_cases hg : (scaledW p num den).any largeB = true
    · have HE := Lib.hid (show scaledE p num den = 4 by rw [HR.out, if_pos hg])
      have HG := Lib.hid hg
      clear hg
      go_wp2_with fail
      refine (fitting_yes _ (scaledW p num den) _ (by omega) hu HG.out).mono ?_
      rintro e w' ⟨rfl, rfl⟩
      go_wp2
      go_ret2
      exact ⟨⟨_, by rw [HE.out]; rfl, by rw [scaledR, if_pos (by rw [HE.out]; simp)]; exact Ints.nil _⟩, hV4⟩
    · have HE := Lib.hid (show scaledE p num den = 0 by rw [HR.out, if_neg hg])
      have HG := Lib.hid hg
      clear hg
      go_wp2_with fail
      refine (fitting_no _ (scaledW p num den) _ (by omega) hu HG.out).mono ?_
      rintro e w' ⟨rfl, rfl⟩
      go_wp2
      go_ret2
      exact ⟨⟨_, by rw [HE.out]; rfl, by rw [scaledR, if_neg (by rw [HE.out]; simp)]; exact hu⟩, hV4⟩
  · go_wp2
    go_ret2
    have hE5 : scaledE p num den = scal1E p num den := by rw [scaledE, if_pos he]
    exact ⟨⟨_, by rw [hE5]; rfl, by rw [scaledR, if_pos (by rw [hE5]; exact he)]; exact Ints.nil _⟩, hV⟩

def within2E (p : List Int) (num den : Int) : Int := if scal1E p num den ≠ 0 then scal1E p num den else if (scaledW p den num).any largeB then 4 else 0
def within2R (p : List Int) (num den : Int) : Bool := if within2E p num den ≠ 0 then false else stableB (scaledW p den num)

set_option maxHeartbeats 2000000 in
theorem Within_any (v : Value) (p : List Int) (num den : Int) (w : World) (hv : Ints w v p) (hl : p.length ≤ 100000) (h1 : -9223372036854775808 ≤ num ∧ num ≤ 9223372036854775807) (h2 : -9223372036854775808 ≤ den ∧ den ≤ 9223372036854775807) :
    Calls Tryz.prog 28 #[v, .agg #[.int .i64 num, .int .i64 den]] w fun e w' => e = .returned (.tuple #[.bool (within2R p num den), .int .i64 (within2E p num den)]) ∧ Below w.heap.size w w' := by
  have H1 := Lib.hid h1
  have H2 := Lib.hid h2
  clear h1 h2
  go_enter Tryz.func28, Tryz.ntmps28
  go_wp2_with fail
  have hB := below_new w (.cells #[.int .i64 num, .int .i64 den] 75)
  have hx := Box2.new w 75 (.int .i64 num) (.int .i64 den)
  obtain ⟨W, hW⟩ : ∃ W, W = w.alloc (.cells #[.int .i64 num, .int .i64 den] 75) := ⟨_, rfl⟩
  rw [← hW] at hB hx ⊢
  clear hW
  have HX := Lib.hid hx
  obtain ⟨c0, c1, _, _⟩ := hx
  have t1 := Lib.hid (CheckPoly_any v p W.drew (by omega) (hv.below hB).drew)
  refine wp_region_held_drew (S := (fun w' => w'.cell? ⟨w.heap.size, 0, none⟩ = some (.int .i64 num) ∧ w'.cell? ⟨w.heap.size, 1, none⟩ = some (.int .i64 den))) (by kernel_rfl) ?_ (fun hHeld0 => ?_)
  · (try dsimp only); (first | go_keep | exact ⟨(HX.out.below h2 HX.out.lt).c0, (HX.out.below h2 HX.out.lt).c1⟩ | exact ⟨(HX.out.below h3 HX.out.lt).c0, (HX.out.below h3 HX.out.lt).c1⟩)
  refine wpAnyH_take (i := 0) (oi := { dst := some 9, op := Op.move (Operand.tmp 0), type := 30, pos := "loop.go:322", after := #[], guard := none }) (v := ?_) rfl (by kernel_rfl) (by kernel_rfl) (by kernel_rfl) (fun _ _ _ h => h) (Or.inl ⟨by rfl, ?_⟩) (by assumption) ?_
  rotate_left
  · (intro w hSw; (try dsimp only at hSw); go_simp); (try with_reducible rfl)
  try simp only [Act.put, List.setIfInBounds_toArray, List.set_cons_zero, List.set_cons_succ]
  refine wpAnyH_take (i := 2) (oi := { dst := some 11, op := Op.load 75 (Operand.tmp 3), type := 75, pos := "loop.go:322", after := #[], guard := none }) (v := ?_) rfl (by kernel_rfl) (by kernel_rfl) (by kernel_rfl) (fun _ _ _ h => h) (Or.inl ⟨by rfl, ?_⟩) (by assumption) ?_
  rotate_left
  · (intro w hSw; (try dsimp only at hSw); go_simp); (try with_reducible rfl)
  try simp only [Act.put, List.setIfInBounds_toArray, List.set_cons_zero, List.set_cons_succ]
  refine wpAnyH_ready (rs := [1]) (by kernel_rfl) (by simp) ?_
  refine (AllReadyH.cons (o := { dst := some 10, op := Op.call { callee := Callee.value (Operand.func 54), args := #[Operand.tmp 9], argTypes := #[30] }, type := 27, pos := "loop.go:322", after := #[{ on := 0, ground := Ground.data }], guard := none }) rfl (fun K hK => ?_) AllReadyH.nil)
  go_simp
  (first | (go_at_call 54; (with_reducible refine t1.out.mono ?_); rintro e w2 ⟨rfl, h2'⟩; have h2 := below_drew h2'; clear h2') | (go_at_call 66; (with_reducible refine (checkRatio_any num den _ H1.out H2.out).mono ?_); rintro e w3 ⟨rfl, h3'⟩; have h3 := bthen h2 h3'; clear h3') | (go_at_call 45; (with_reducible refine (first2 _ _ _ _).mono ?_); rintro e w' ⟨rfl, rfl⟩))
  (try go_wp2_with fail)
  refine hK.out _ _ ?_ (fun hHeld1 => ?_)
  · (try dsimp only); (first | go_keep | exact ⟨(HX.out.below h2 HX.out.lt).c0, (HX.out.below h2 HX.out.lt).c1⟩ | exact ⟨(HX.out.below h3 HX.out.lt).c0, (HX.out.below h3 HX.out.lt).c1⟩)
  clear hK K hHeld0
  try simp only [Act.put, List.setIfInBounds_toArray, List.set_cons_zero, List.set_cons_succ]
  refine wpAnyH_ready (rs := [3]) (by kernel_rfl) (by simp) ?_
  refine (AllReadyH.cons (o := { dst := some 12, op := Op.call { callee := Callee.value (Operand.func 66), args := #[Operand.tmp 11], argTypes := #[75] }, type := 27, pos := "loop.go:322", after := #[{ on := 2, ground := Ground.data }, { on := 1, ground := Ground.chain }], guard := none }) rfl (fun K hK => ?_) AllReadyH.nil)
  go_simp
  (first | (go_at_call 54; (with_reducible refine t1.out.mono ?_); rintro e w2 ⟨rfl, h2'⟩; have h2 := below_drew h2'; clear h2') | (go_at_call 66; (with_reducible refine (checkRatio_any num den _ H1.out H2.out).mono ?_); rintro e w3 ⟨rfl, h3'⟩; have h3 := bthen h2 h3'; clear h3') | (go_at_call 45; (with_reducible refine (first2 _ _ _ _).mono ?_); rintro e w' ⟨rfl, rfl⟩))
  (try go_wp2_with fail)
  refine hK.out _ _ ?_ (fun hHeld2 => ?_)
  · (try dsimp only); (first | go_keep | exact ⟨(HX.out.below h2 HX.out.lt).c0, (HX.out.below h2 HX.out.lt).c1⟩ | exact ⟨(HX.out.below h3 HX.out.lt).c0, (HX.out.below h3 HX.out.lt).c1⟩)
  clear hK K hHeld1
  try simp only [Act.put, List.setIfInBounds_toArray, List.set_cons_zero, List.set_cons_succ]
  refine wpAnyH_ready (rs := [4]) (by kernel_rfl) (by simp) ?_
  refine (AllReadyH.cons (o := { dst := some 13, op := Op.buildSlice 155 2 #[(0, Operand.tmp 10), (1, Operand.tmp 12)], type := 155, pos := "loop.go:322", after := #[{ on := 1, ground := Ground.data }, { on := 3, ground := Ground.data }], guard := none }) rfl (fun K hK => ?_) AllReadyH.nil)
  go_simp
  refine hK.out _ _ ?_ (fun hHeld3 => ?_)
  · (try dsimp only); (first | go_keep | exact ⟨(HX.out.below h2 HX.out.lt).c0, (HX.out.below h2 HX.out.lt).c1⟩ | exact ⟨(HX.out.below h3 HX.out.lt).c0, (HX.out.below h3 HX.out.lt).c1⟩)
  clear hK K hHeld2
  try simp only [Act.put, List.setIfInBounds_toArray, List.set_cons_zero, List.set_cons_succ]
  refine wpAnyH_ready (rs := [5]) (by kernel_rfl) (by simp) ?_
  refine (AllReadyH.cons (o := { dst := some 14, op := Op.call { callee := Callee.value (Operand.func 45), args := #[Operand.tmp 13], argTypes := #[155] }, type := 27, pos := "loop.go:322", after := #[{ on := 4, ground := Ground.data }, { on := 3, ground := Ground.chain }], guard := none }) rfl (fun K hK => ?_) AllReadyH.nil)
  go_simp
  (first | (go_at_call 54; (with_reducible refine t1.out.mono ?_); rintro e w2 ⟨rfl, h2'⟩; have h2 := below_drew h2'; clear h2') | (go_at_call 66; (with_reducible refine (checkRatio_any num den _ H1.out H2.out).mono ?_); rintro e w3 ⟨rfl, h3'⟩; have h3 := bthen h2 h3'; clear h3') | (go_at_call 45; (with_reducible refine (first2 _ _ _ _).mono ?_); rintro e w' ⟨rfl, rfl⟩))
  (try go_wp2_with fail)
  refine hK.out _ _ ?_ (fun hHeld4 => ?_)
  · (try dsimp only); (first | go_keep | exact ⟨(HX.out.below h2 HX.out.lt).c0, (HX.out.below h2 HX.out.lt).c1⟩ | exact ⟨(HX.out.below h3 HX.out.lt).c0, (HX.out.below h3 HX.out.lt).c1⟩)
  clear hK K hHeld3
  try simp only [Act.put, List.setIfInBounds_toArray, List.set_cons_zero, List.set_cons_succ]
  refine wpAnyH_take (i := 6) (oi := { dst := some 6, op := Op.assign (Operand.tmp 14), type := 27, pos := "loop.go:322", after := #[{ on := 5, ground := Ground.data }, { on := 5, ground := Ground.chain }, { on := 0, ground := Ground.phase }, { on := 1, ground := Ground.phase }, { on := 2, ground := Ground.phase }, { on := 3, ground := Ground.phase }, { on := 4, ground := Ground.phase }, { on := 5, ground := Ground.phase }], guard := none }) (v := ?_) rfl (by kernel_rfl) (by kernel_rfl) (by kernel_rfl) (fun _ _ _ h => h) (Or.inl ⟨by rfl, ?_⟩) (by assumption) ?_
  rotate_left
  · (intro w hSw; (try dsimp only at hSw); go_simp); (try with_reducible rfl)
  try simp only [Act.put, List.setIfInBounds_toArray, List.set_cons_zero, List.set_cons_succ]
  refine wpAnyH_done (by kernel_rfl) ?_ _
  clear hHeld4
  have h4 := bthen h3 (below_new w3 (.cells #[.int .i64 (checkPolyE p), .int .i64 (ratioE num den)] 27))
  have hV := bthen hB h4
  have hxV := HX.out.below h4 HX.out.lt
  generalize w3.alloc _ = V at h4 hV hxV ⊢
  have hE : firstE [checkPolyE p, ratioE num den] = scal1E p num den := rfl
  rw [hE]
  clear c0 c1 h2 h3 t1 HX hE hB h4
  by_cases he : scal1E p num den = 0
  · have hS := Lib.hid (scal1E_ok he).2
    have HR := Lib.hid (show within2E p num den = if (scaledW p den num).any largeB then 4 else 0 by rw [within2E, if_neg (by rw [he]; simp)])
    rw [he]
    clear he
    obtain ⟨c0, c1, _, _⟩ := hxV
    have hlen : (scaledW p den num).length ≤ 1000000 := by unfold scaledW; rw [upto_length]; omega
    go_wp2_with fail
    refine (scaled_any v p den num V (hv.below hV) hS.out).mono ?_
    rintro e w4 ⟨⟨u, rfl, hu⟩, h5⟩
    have hV4 := bthen hV h5
    clear c0 c1
    by_cases hg : (scaledW p den num).any largeB = true
    · have HE := Lib.hid (show within2E p num den = 4 by rw [HR.out, if_pos hg])
      have HG := Lib.hid hg
      clear hg
      go_wp2_with fail
      refine (fitting_yes _ (scaledW p den num) _ (by omega) hu HG.out).mono ?_
      rintro e w' ⟨rfl, rfl⟩
      go_wp2
      go_ret2
      exact ⟨by rw [within2R, if_pos (by rw [HE.out]; simp), HE.out]; rfl, hV4⟩
    · have HE := Lib.hid (show within2E p num den = 0 by rw [HR.out, if_neg hg])
      have HG := Lib.hid hg
      clear hg
      go_wp2_with fail
      refine (fitting_no _ (scaledW p den num) _ (by omega) hu HG.out).mono ?_
      rintro e w' ⟨rfl, rfl⟩
      go_wp2_with fail
      refine (isStable_any u _ w4 hu hlen).mono ?_
      rintro e w5 ⟨rfl, hb5⟩
      go_wp2
      go_ret2
      exact ⟨by rw [within2R, if_neg (by rw [HE.out]; simp), HE.out]; rfl, bthen hV4 hb5⟩
  · go_wp2
    go_ret2
    have hE5 : within2E p num den = scal1E p num den := by rw [within2E, if_pos he]
    exact ⟨by rw [within2R, if_pos (by rw [hE5]; exact he), hE5]; rfl, hV⟩

theorem take_eq_succ {α : Type} {a b : List α} {k : Nat} {x : α} (h : a.take k = b.take k) (ha : a[k]? = some x) (hb : b[k]? = some x) : a.take (k + 1) = b.take (k + 1) := by
  rw [List.take_add_one, List.take_add_one, h, ha, hb]
theorem ne_of_get {α : Type} {a b : List α} {k : Nat} {x y : α} (ha : a[k]? = some x) (hb : b[k]? = some y) (h : x ≠ y) : a ≠ b := by
  rintro rfl; rw [ha] at hb; exact h (Option.some.inj hb)

def checkTableE (p : List Int) (t : List (List Int)) : Int := if checkPolyE p ≠ 0 then checkPolyE p else whenE (!decide (tableW p = t) || !stableB p) 19

set_option maxHeartbeats 400000 in
theorem mappedN_any (K : Nat) (cap : Array Value) (henter : ∀ args w, Sem.run Tryz.prog (callFunc K args) w = .ok (.enter K args) w) (g : Int → Int) (v : Value) (l : List Int) (w : World) (hl : l.length * 8 ≤ 140737488351232) (hv : Ints w v l)
    (hf : ∀ x ∈ l, ∀ w1, Below w.heap.size w w1 → Calls Tryz.prog K (#[.int .i64 x] ++ cap) w1 fun r w2 => r = .returned (.int .i64 (g x)) ∧ w1 = w2) :
    Calls Tryz.prog 61 #[v, .func (.func K) #[] cap] w fun r w' => (∃ u, r = .returned u ∧ Ints w' u (l.map g)) ∧ Below w.heap.size w w' := by
  obtain ⟨a, cp, rfl, hc, hv⟩ := hv
  rcases Nat.eq_zero_or_pos l.length with h0 | h0
  · obtain rfl : l = [] := List.length_eq_zero_iff.1 h0
    go_enter Tryz.func61, Tryz.ntmps61
    go_wp2
    go_loop [5, 10] (fun v i => v = .slice none 0 0 ∧ i = .int .i64 0) (fun _ _ => 0)
    case atStart => exact ⟨rfl, rfl⟩
    case round =>
      obtain ⟨rfl, rfl⟩ := hrel
      go_wp2
      go_ret
      exact ⟨⟨_, rfl, Ints.nil _⟩, Below.refl _ _⟩
  · obtain ⟨b, off, rfl, hcs⟩ := hv h0
    clear hv
    obtain ⟨i0, hi, hz0, hz1, hz2⟩ := info_parts Tryz.infoInt
    go_enter Tryz.func61, Tryz.ntmps61
    go_wp2
    go_loopw [5, 10] (fun v i wr => ∃ k : Nat, k ≤ l.length ∧ i = .int .i64 k ∧ wr.ownsRow w.heap.size 3 1 v k ((l.take k).map fun x => Value.int .i64 (g x)) ∧ Below w.heap.size w wr) (fun _ i _ => l.length - (intOf i).toNat)
    case atStart => exact ⟨0, by omega, rfl, World.ownsRow_nil _ _ _ _, Below.refl _ _⟩
    case round =>
      obtain ⟨k, hk, rfl, hown, hbel⟩ := hrel
      by_cases hlt : k < l.length
      · have hcell := hcs k hlt
        have hcell2 : wr.cell? ⟨b, off + k, none⟩ = some (.int .i64 (l[k]?.getD 0)) := (hbel.cell (p := ⟨b, off + k, none⟩) (lt_of_cellSome hcell)).trans hcell
        clear hcs hcell
        generalize hx : l[k]?.getD 0 = x at hcell2
        have HX := Lib.hid hx
        clear hx
        go_wp2_with fail
        refine (hf x (by rw [← HX.out]; simp [hlt]) wr hbel).mono ?_
        rintro e w2 ⟨rfl, rfl⟩
        go_wp2_with (at_builtin; refine wpList_append_own _ rfl _ _ 22 rfl w.heap.size 3 i0 (.int .i64 0) 1 8 Tryz.underlying22 hi hz0 hz1 hz2 rfl (by decide) _ _ _ rfl (hown.alloc _) ⟨wr.heap.size, 0, none⟩ 1 1 [.int .i64 (g x)] rfl rfl (cell_one_new _ _ _) (by simp [Value.oneCell']) (by unfold maxLen; omega) (by omega) (by have := hbel.size; simp; omega) ?_; intro v' w1 hown' hgrow _)
        have hbel' := below_own hbel hown hgrow
        have hown2 : w1.ownsRow w.heap.size 3 1 v' (k + 1) ((l.take (k + 1)).map fun x => Value.int .i64 (g x)) := by
          rw [take_succ_map _ _ _ x (getElem?_of_getD hlt HX.out)]; exact hown'
        clear hown hbel hown' hgrow
        go_wp2
        go_roundw
        case rel => exact ⟨k + 1, by omega, by go_num, hown2, hbel'⟩
        case measure => simp [intOf]; omega
      · obtain rfl : k = l.length := by omega
        have hout : Ints wr u5 (l.map g) := Ints.of_own (n := l.length) (by rw [List.take_length] at hown; rw [List.map_map]; exact hown) (by simp)
        clear hown
        go_wp2
        go_ret
        exact ⟨⟨_, rfl, hout⟩, hbel⟩

set_option maxHeartbeats 400000 in
theorem Strength1_any (x n : Int) (B : Nat) (w : World) (hc : w.cell? ⟨B, 0, none⟩ = some (.int .i64 n)) :
    Calls Tryz.prog 62 #[.int .i64 x, .pointer (some ⟨B, 0, none⟩)] w fun e w' => e = .returned (.int .i64 (wrap64 (n * x))) ∧ w = w' := by
  go_enter Tryz.func62, Tryz.ntmps62
  go_wp2
  go_ret
  exact ⟨rfl, rfl⟩

theorem Tryz.enterStrength1 (args : Array Value) (w : World) : Sem.run Tryz.prog (callFunc 62 args) w = .ok (.enter 62 args) w :=
  MuLone.run_callFunc_enter Tryz.func62 (by kernel_rfl) rfl args w

def strP (a b c d : List Int) (n : Int) : List Int := closedW (a.map fun x => wrap64 (n * x)) b c d
def strL (a b c d : List Int) : Nat → Int → Int × Int
  | 0, _ => (0, 7)
  | f + 1, n => if (strP a b c d n).any largeB then (0, 4) else if stableB (strP a b c d n) then strL a b c d f (n + 1) else (n, 0)
def str1E (a b c d : List Int) (most : Int) : Int := firstE [checkLoopE a b c d, withinE most 1 20]
def strengthRE (a b c d : List Int) (most : Int) : Int × Int := if str1E a b c d most ≠ 0 then (0, str1E a b c d most) else strL a b c d most.toNat 1

/-- the value in the cell to which a pointer leads. -/
def cellAt (v : Value) (w : World) : Value := match v with | .pointer (some a) => (w.cell? a).getD undef | _ => undef

set_option maxRecDepth 100000 in
set_option maxHeartbeats 4000000 in
theorem Strength_any (va vb vc vd : Value) (a b c d : List Int) (most : Int) (w : World) (ha : Ints w va a) (hb : Ints w vb b) (hc : Ints w vc c) (hd : Ints w vd d)
    (ha2 : a.length ≤ 100000) (hb2 : b.length ≤ 100000) (hc2 : c.length ≤ 100000) (hd2 : d.length ≤ 100000) :
    Calls Tryz.prog 22 #[.agg #[va, vb, vc, vd], .int .i64 most] w fun e w' => e = .returned (.tuple #[.int .i64 (strengthRE a b c d most).1, .int .i64 (strengthRE a b c d most).2]) ∧ Below w.heap.size w w' := by
  obtain ⟨xa, ca, rfl, _⟩ := id ha
  obtain ⟨xb, cb, rfl, _⟩ := id hb
  obtain ⟨xc, cc, rfl, _⟩ := id hc
  obtain ⟨xd, cd, rfl, _⟩ := id hd
  go_enter Tryz.func22, Tryz.ntmps22
  go_wp2_with fail
  obtain ⟨w1, hw1⟩ : ∃ v, v = World.alloc w (Obj.cells #[.slice xa a.length ca, .slice xb b.length cb, .slice xc c.length cc, .slice xd d.length cd] 32) := ⟨_, rfl⟩
  have kw1 : Below w.heap.size w w1 := by rw [hw1]; exact below_new _ _
  have iw1 : Blk w1 (w.heap.size) 32 [.slice xa a.length ca, .slice xb b.length cb, .slice xc c.length cc, .slice xd d.length cd] := by rw [hw1]; exact Blk.new _ _ _
  have sw1 : w1.heap.size = w.heap.size + 1 := by rw [hw1]; simp
  rw [← hw1]
  clear hw1
  have q0 := iw1.cell (j := 0) rfl
  have q1 := iw1.cell (j := 1) rfl
  have q2 := iw1.cell (j := 2) rfl
  have q3 := iw1.cell (j := 3) rfl
  go_wp2_with fail
  clear q0 q1 q2 q3
  refine (CheckLoop_any _ _ _ _ a b c d w1 (ha.carry kw1) (hb.carry kw1) (hc.carry kw1) (hd.carry kw1) ha2 hb2 hc2 hd2).mono ?_
  rintro e w2 ⟨rfl, h2⟩
  go_wp2_with fail
  refine (within_any _ _ _ _).mono ?_
  rintro e w' ⟨rfl, rfl⟩
  go_wp2_with fail
  refine (first2 _ _ _ _).mono ?_
  rintro e w' ⟨rfl, rfl⟩
  have h3 := bthen h2 (below_new w2 (.cells #[.int .i64 (checkLoopE a b c d), .int .i64 (withinE most 1 20)] 27))
  have hV := bthen kw1 h3
  have z := iw1.carry h3
  generalize w2.alloc _ = V at h3 hV z ⊢
  have hE : firstE [checkLoopE a b c d, withinE most 1 20] = str1E a b c d most := rfl
  rw [hE]
  clear h2 h3 kw1 iw1 sw1 hE
  by_cases he : str1E a b c d most = 0
  · obtain ⟨e1, e2⟩ := firstE_cons_ok (show firstE [checkLoopE a b c d, withinE most 1 20] = 0 from he)
    obtain ⟨e2, _⟩ := firstE_cons_ok e2
    obtain ⟨m1, m2⟩ := withinE_ok e2
    obtain ⟨⟨a1, a5⟩, ⟨bb1, b5⟩, ⟨c1, c5⟩, ⟨d1, d5⟩⟩ := checkLoopE_len e1
    have HR := Lib.hid (show strengthRE a b c d most = strL a b c d most.toNat 1 by rw [strengthRE, if_neg (by rw [he]; simp)])
    rw [he]
    clear he e1 e2
    go_wp2_with fail
    obtain ⟨v1, hv1⟩ : ∃ v, v = World.alloc V (Obj.cells #[.int .i64 1] 3) := ⟨_, rfl⟩
    have kv1 : Below V.heap.size V v1 := by rw [hv1]; exact below_new _ _
    have iv1 : Blk v1 (V.heap.size) 3 [.int .i64 1] := by rw [hv1]; exact Blk.new _ _ _
    have sv1 : v1.heap.size = V.heap.size + 1 := by rw [hv1]; simp
    rw [← hv1]
    clear hv1
    go_loopw [7] (fun v7 wr => ∃ (k B : Nat), v7 = .pointer (some ⟨B, 0, none⟩) ∧ (k : Int) ≤ most ∧ Blk wr B 3 [.int .i64 (1 + k)] ∧ V.heap.size ≤ B ∧ Below V.heap.size V wr ∧ strL a b c d most.toNat 1 = strL a b c d (most.toNat - k) (1 + k)) (fun v7 wr => (most + 1 - intOf (cellAt v7 wr)).toNat)
    case atStart => exact ⟨0, V.heap.size, rfl, by omega, iv1, Nat.le_refl _, kv1, rfl⟩
    case round =>
      obtain ⟨k, B, rfl, hk, hbx, hB, hbr, hst⟩ := hrel
      have zr := z.carry hbr
      have hbw := bthen hV hbr
      have c0 := hbx.cell (j := 0) rfl
      have HST := Lib.hid hst
      clear hst
      by_cases hle : 1 + (k : Int) ≤ most
      · obtain ⟨f, hf⟩ : ∃ f, most.toNat - k = f + 1 := ⟨most.toNat - k - 1, by omega⟩
        have HF := Lib.hid hf
        clear hf
        obtain ⟨n, hn⟩ : ∃ n : Int, n = 1 + k := ⟨_, rfl⟩
        have HN := Lib.hid hn
        rw [← hn] at hbx c0 hle
        have n1 : 1 ≤ n := by omega
        clear hn
        have q0 := zr.cell (j := 0) rfl
        have q1 := zr.cell (j := 1) rfl
        have q2 := zr.cell (j := 2) rfl
        have q3 := zr.cell (j := 3) rfl
        go_upto_region 7 with fail
        go_cut [8] from 23 to 29 (fun v8 wx => Ints wx v8 (strP a b c d n) ∧ Below wr.heap.size wr wx)
        case first =>
          have hD : Below wr.heap.size wr wr.drew := (Below.refl _ _).drew
          have t1 := Lib.hid (mappedN_any 62 #[.pointer (some ⟨B, 0, none⟩)] Tryz.enterStrength1 (fun x => wrap64 (n * x)) _ a wr.drew (by omega) (ha.carry (bthen hbw hD)) (fun x _ w1 h1 => Strength1_any x n B w1 (cellb (cellb c0 hD) h1)))
          have HZ := Lib.hid zr
          refine wp_region_held_drew (S := (fun w' => w'.cell? ⟨w.heap.size, 0, none⟩ = some (.slice xa a.length ca) ∧ w'.cell? ⟨w.heap.size, 1, none⟩ = some (.slice xb b.length cb) ∧ w'.cell? ⟨w.heap.size, 2, none⟩ = some (.slice xc c.length cc) ∧ w'.cell? ⟨w.heap.size, 3, none⟩ = some (.slice xd d.length cd))) (by kernel_rfl) ?_ (fun hHeld0 => ?_)
          · (try dsimp only); (first | go_keep | exact ⟨(HZ.out.carry h5).cell rfl, (HZ.out.carry h5).cell rfl, (HZ.out.carry h5).cell rfl, (HZ.out.carry h5).cell rfl⟩ | exact ⟨(HZ.out.carry h6).cell rfl, (HZ.out.carry h6).cell rfl, (HZ.out.carry h6).cell rfl, (HZ.out.carry h6).cell rfl⟩ | exact ⟨(HZ.out.carry h7).cell rfl, (HZ.out.carry h7).cell rfl, (HZ.out.carry h7).cell rfl, (HZ.out.carry h7).cell rfl⟩)
          refine wpAnyH_take (i := 0) (oi := { dst := some 23, op := Op.load 32 (Operand.tmp 2), type := 32, pos := "loop.go:414", after := #[], guard := none }) (v := ?_) rfl (by kernel_rfl) (by kernel_rfl) (by kernel_rfl) (fun _ _ _ h => h) (Or.inl ⟨by rfl, ?_⟩) (by assumption) ?_
          rotate_left
          · (intro w hSw; (try dsimp only at hSw); go_simp); (try with_reducible rfl)
          try simp only [Act.put, List.setIfInBounds_toArray, List.set_cons_zero, List.set_cons_succ]
          refine wpAnyH_take (i := 1) (oi := { dst := some 24, op := Op.fieldAddr 32 (Operand.tmp 2) 0, type := 0, pos := "loop.go:414", after := #[], guard := none }) (v := ?_) rfl (by kernel_rfl) (by kernel_rfl) (by kernel_rfl) (fun _ _ _ h => h) (Or.inl ⟨by rfl, ?_⟩) (by assumption) ?_
          rotate_left
          · (intro w hSw; (try dsimp only at hSw); go_simp); (try with_reducible rfl)
          try simp only [Act.put, List.setIfInBounds_toArray, List.set_cons_zero, List.set_cons_succ]
          refine wpAnyH_take (i := 2) (oi := { dst := some 25, op := Op.load 30 (Operand.tmp 24), type := 30, pos := "loop.go:414", after := #[{ on := 1, ground := Ground.data }], guard := none }) (v := ?_) rfl (by kernel_rfl) (by kernel_rfl) (by kernel_rfl) (fun _ _ _ h => h) (Or.inl ⟨by rfl, ?_⟩) (by assumption) ?_
          rotate_left
          · (intro w hSw; (try dsimp only at hSw); go_simp); (try with_reducible rfl)
          try simp only [Act.put, List.setIfInBounds_toArray, List.set_cons_zero, List.set_cons_succ]
          refine wpAnyH_take (i := 3) (oi := { dst := some 26, op := Op.makeFunc (Fn.func 62) #[] #[Operand.tmp 7], type := 125, pos := "loop.go:414", after := #[], guard := none }) (v := ?_) rfl (by kernel_rfl) (by kernel_rfl) (by kernel_rfl) (fun _ _ _ h => h) (Or.inl ⟨by rfl, ?_⟩) (by assumption) ?_
          rotate_left
          · (intro w hSw; (try dsimp only at hSw); go_simp); (try with_reducible rfl)
          try simp only [Act.put, List.setIfInBounds_toArray, List.set_cons_zero, List.set_cons_succ]
          refine wpAnyH_ready (rs := [4]) (by kernel_rfl) (by simp) ?_
          refine (AllReadyH.cons (o := { dst := some 27, op := Op.call { callee := Callee.value (Operand.func 61), args := #[Operand.tmp 25, Operand.tmp 26], argTypes := #[22, 125] }, type := 22, pos := "loop.go:414", after := #[{ on := 2, ground := Ground.data }, { on := 3, ground := Ground.data }], guard := none }) rfl (fun K hK => ?_) AllReadyH.nil)
          go_simp
          (first | (go_at_call 61; (with_reducible refine t1.out.mono ?_); rintro e w5 ⟨⟨u5, rfl, hu5⟩, h5'⟩; have h5 := bthen hD h5'; clear h5'; obtain ⟨ua5, uc5, rfl, _⟩ := id hu5; rw [List.length_map] at hu5) | (go_at_call 60; (with_reducible refine (with_any _ _ _ _ _ _ a b c d w5 hu5 (ha.carry (bthen hbw h5)) (hb.carry (bthen hbw h5)) (hc.carry (bthen hbw h5)) (hd.carry (bthen hbw h5))).mono ?_); rintro e w6 ⟨rfl, h6'⟩; have h6 := bthen h5 h6'; have hu6 := hu5.carry h6'; clear h6') | (go_at_call 59; (with_reducible refine (closed_any _ _ _ _ _ b c d w6 hu6 (hb.carry (bthen hbw h6)) (hc.carry (bthen hbw h6)) (hd.carry (bthen hbw h6)) (by simp; omega) bb1 c1 d1 (by simp; omega) (by omega) (by omega) (by omega)).mono ?_); rintro e w7 ⟨⟨u7, rfl, hu7⟩, h7'⟩; have h7 := bthen h6 h7'; clear h7'))
          (try go_wp2_with fail)
          refine hK.out _ _ ?_ (fun hHeld1 => ?_)
          · (try dsimp only); (first | go_keep | exact ⟨(HZ.out.carry h5).cell rfl, (HZ.out.carry h5).cell rfl, (HZ.out.carry h5).cell rfl, (HZ.out.carry h5).cell rfl⟩ | exact ⟨(HZ.out.carry h6).cell rfl, (HZ.out.carry h6).cell rfl, (HZ.out.carry h6).cell rfl, (HZ.out.carry h6).cell rfl⟩ | exact ⟨(HZ.out.carry h7).cell rfl, (HZ.out.carry h7).cell rfl, (HZ.out.carry h7).cell rfl, (HZ.out.carry h7).cell rfl⟩)
          clear hK K hHeld0
          try simp only [Act.put, List.setIfInBounds_toArray, List.set_cons_zero, List.set_cons_succ]
          refine wpAnyH_ready (rs := [5]) (by kernel_rfl) (by simp) ?_
          refine (AllReadyH.cons (o := { dst := some 28, op := Op.call { callee := Callee.value (Operand.func 60), args := #[Operand.tmp 23, Operand.tmp 27], argTypes := #[32, 30] }, type := 32, pos := "loop.go:414", after := #[{ on := 0, ground := Ground.data }, { on := 4, ground := Ground.data }, { on := 4, ground := Ground.chain }], guard := none }) rfl (fun K hK => ?_) AllReadyH.nil)
          go_simp
          (first | (go_at_call 61; (with_reducible refine t1.out.mono ?_); rintro e w5 ⟨⟨u5, rfl, hu5⟩, h5'⟩; have h5 := bthen hD h5'; clear h5'; obtain ⟨ua5, uc5, rfl, _⟩ := id hu5; rw [List.length_map] at hu5) | (go_at_call 60; (with_reducible refine (with_any _ _ _ _ _ _ a b c d w5 hu5 (ha.carry (bthen hbw h5)) (hb.carry (bthen hbw h5)) (hc.carry (bthen hbw h5)) (hd.carry (bthen hbw h5))).mono ?_); rintro e w6 ⟨rfl, h6'⟩; have h6 := bthen h5 h6'; have hu6 := hu5.carry h6'; clear h6') | (go_at_call 59; (with_reducible refine (closed_any _ _ _ _ _ b c d w6 hu6 (hb.carry (bthen hbw h6)) (hc.carry (bthen hbw h6)) (hd.carry (bthen hbw h6)) (by simp; omega) bb1 c1 d1 (by simp; omega) (by omega) (by omega) (by omega)).mono ?_); rintro e w7 ⟨⟨u7, rfl, hu7⟩, h7'⟩; have h7 := bthen h6 h7'; clear h7'))
          (try go_wp2_with fail)
          refine hK.out _ _ ?_ (fun hHeld2 => ?_)
          · (try dsimp only); (first | go_keep | exact ⟨(HZ.out.carry h5).cell rfl, (HZ.out.carry h5).cell rfl, (HZ.out.carry h5).cell rfl, (HZ.out.carry h5).cell rfl⟩ | exact ⟨(HZ.out.carry h6).cell rfl, (HZ.out.carry h6).cell rfl, (HZ.out.carry h6).cell rfl, (HZ.out.carry h6).cell rfl⟩ | exact ⟨(HZ.out.carry h7).cell rfl, (HZ.out.carry h7).cell rfl, (HZ.out.carry h7).cell rfl, (HZ.out.carry h7).cell rfl⟩)
          clear hK K hHeld1
          try simp only [Act.put, List.setIfInBounds_toArray, List.set_cons_zero, List.set_cons_succ]
          refine wpAnyH_ready (rs := [6]) (by kernel_rfl) (by simp) ?_
          refine (AllReadyH.cons (o := { dst := some 29, op := Op.call { callee := Callee.value (Operand.func 59), args := #[Operand.tmp 28], argTypes := #[32] }, type := 30, pos := "loop.go:414", after := #[{ on := 5, ground := Ground.data }, { on := 5, ground := Ground.chain }], guard := none }) rfl (fun K hK => ?_) AllReadyH.nil)
          go_simp
          (first | (go_at_call 61; (with_reducible refine t1.out.mono ?_); rintro e w5 ⟨⟨u5, rfl, hu5⟩, h5'⟩; have h5 := bthen hD h5'; clear h5'; obtain ⟨ua5, uc5, rfl, _⟩ := id hu5; rw [List.length_map] at hu5) | (go_at_call 60; (with_reducible refine (with_any _ _ _ _ _ _ a b c d w5 hu5 (ha.carry (bthen hbw h5)) (hb.carry (bthen hbw h5)) (hc.carry (bthen hbw h5)) (hd.carry (bthen hbw h5))).mono ?_); rintro e w6 ⟨rfl, h6'⟩; have h6 := bthen h5 h6'; have hu6 := hu5.carry h6'; clear h6') | (go_at_call 59; (with_reducible refine (closed_any _ _ _ _ _ b c d w6 hu6 (hb.carry (bthen hbw h6)) (hc.carry (bthen hbw h6)) (hd.carry (bthen hbw h6)) (by simp; omega) bb1 c1 d1 (by simp; omega) (by omega) (by omega) (by omega)).mono ?_); rintro e w7 ⟨⟨u7, rfl, hu7⟩, h7'⟩; have h7 := bthen h6 h7'; clear h7'))
          (try go_wp2_with fail)
          refine hK.out _ _ ?_ (fun hHeld3 => ?_)
          · (try dsimp only); (first | go_keep | exact ⟨(HZ.out.carry h5).cell rfl, (HZ.out.carry h5).cell rfl, (HZ.out.carry h5).cell rfl, (HZ.out.carry h5).cell rfl⟩ | exact ⟨(HZ.out.carry h6).cell rfl, (HZ.out.carry h6).cell rfl, (HZ.out.carry h6).cell rfl, (HZ.out.carry h6).cell rfl⟩ | exact ⟨(HZ.out.carry h7).cell rfl, (HZ.out.carry h7).cell rfl, (HZ.out.carry h7).cell rfl, (HZ.out.carry h7).cell rfl⟩)
          clear hK K hHeld2
          try simp only [Act.put, List.setIfInBounds_toArray, List.set_cons_zero, List.set_cons_succ]
          refine wpAnyH_take (i := 7) (oi := { dst := some 8, op := Op.assign (Operand.tmp 29), type := 30, pos := "loop.go:414", after := #[{ on := 6, ground := Ground.data }, { on := 6, ground := Ground.chain }, { on := 0, ground := Ground.phase }, { on := 1, ground := Ground.phase }, { on := 2, ground := Ground.phase }, { on := 3, ground := Ground.phase }, { on := 4, ground := Ground.phase }, { on := 5, ground := Ground.phase }, { on := 6, ground := Ground.phase }], guard := none }) (v := ?_) rfl (by kernel_rfl) (by kernel_rfl) (by kernel_rfl) (fun _ _ _ h => h) (Or.inl ⟨by rfl, ?_⟩) (by assumption) ?_
          rotate_left
          · (intro w hSw; (try dsimp only at hSw); go_simp); (try with_reducible rfl)
          try simp only [Act.put, List.setIfInBounds_toArray, List.set_cons_zero, List.set_cons_succ]
          refine wpAnyH_done (by kernel_rfl) ?_ _
          clear hHeld3
          (go_wp2_with fail; go_meet; exact ⟨hu7, h7⟩)
        case rest =>
          obtain ⟨hu, hbc⟩ := hcut
          obtain ⟨wo, rfl⟩ : ∃ v, v = wc := ⟨_, rfl⟩
          have hx2 := hbx.carry hbc
          have hbr2 := hbr.trans (hbc.mono hbr.size)
          have hbw2 := bthen hbw hbc
          have hsl : (strP a b c d n).length ≤ 100000 := by
            have := closedW_length (a.map fun x => wrap64 (n * x)) b c d
            simp only [List.length_map] at this
            unfold strP; omega
          obtain ⟨ua, uc, rfl, _⟩ := id hu
          have C0 := Lib.hid c0
          clear q0 q1 q2 q3 c0 hbx zr
          have c0 := hx2.cell (j := 0) rfl
          by_cases hg : (strP a b c d n).any largeB = true
          · have HR2 := Lib.hid (show strL a b c d most.toNat 1 = (0, 4) by rw [HST.out, HF.out, ← HN.out, strL, if_pos hg])
            have HG := Lib.hid (isLarge_any _ (strP a b c d n) wo (by omega) hu)
            rw [hg] at HG
            clear hg
            go_wp2_with fail
            refine (HG.out).mono ?_
            rintro e w' ⟨rfl, rfl⟩
            go_wp2
            go_ret2
            exact ⟨by rw [HR.out, HR2.out]; rfl, hbw2⟩
          · have hg' : (strP a b c d n).any largeB = false := by simpa using hg
            have HG := Lib.hid (isLarge_any _ (strP a b c d n) wo (by omega) hu)
            rw [hg'] at HG
            have hi := isStable_any _ (strP a b c d n) wo hu (by omega)
            by_cases hs : stableB (strP a b c d n) = true
            · have HR2 := Lib.hid (show strL a b c d most.toNat 1 = strL a b c d (most.toNat - (k + 1)) (1 + ((k + 1 : Nat) : Int)) by
                rw [HST.out, HF.out, ← HN.out, strL, if_neg hg, if_pos hs, show most.toNat - (k + 1) = f from by have := HF.out; omega, show n + 1 = 1 + ((k + 1 : Nat) : Int) from by have := HN.out; omega])
              rw [hs] at hi
              have HI := Lib.hid hi
              clear hg hg' hs hi
              go_wp2_with fail
              refine (HG.out).mono ?_
              rintro e w' ⟨rfl, rfl⟩
              go_wp2_with fail
              refine (HI.out).mono ?_
              rintro e w9 ⟨rfl, h9⟩
              have c1 := cellb c0 h9
              clear c0
              go_wp2
              go_roundw
              case rel =>
                refine ⟨k + 1, w9.heap.size, rfl, by have := HN.out; omega, ?_, ?_, ?_, HR2.out⟩
                · have h := Blk.new w9 3 [.int .i64 (n + 1)]
                  rw [show n + 1 = 1 + ((k + 1 : Nat) : Int) from by have := HN.out; omega] at h ⊢
                  exact h
                · have := hbr2.size; have := h9.size; omega
                · exact (hbr2.trans (h9.mono hbr2.size)).trans ((below_new w9 _).mono (by have := hbr2.size; have := h9.size; omega))
              case measure =>
                have e1 : cellAt (.pointer (some ⟨w9.heap.size, 0, none⟩)) (w9.alloc (.cells #[.int .i64 (n + 1)] 3)) = .int .i64 (n + 1) := by
                  show ((World.cell? _ _).getD undef) = _
                  rw [cell_new]; rfl
                have e2 : cellAt (.pointer (some ⟨B, 0, none⟩)) wr = .int .i64 n := by
                  show ((World.cell? _ _).getD undef) = _
                  rw [C0.out]; rfl
                rw [e1, e2]; simp only [intOf]; omega
            · have hs' : stableB (strP a b c d n) = false := by simpa using hs
              have HR2 := Lib.hid (show strL a b c d most.toNat 1 = (n, 0) by rw [HST.out, HF.out, ← HN.out, strL, if_neg hg, if_neg hs])
              rw [hs'] at hi
              have HI := Lib.hid hi
              clear hg hg' hs hs' hi
              go_wp2_with fail
              refine (HG.out).mono ?_
              rintro e w' ⟨rfl, rfl⟩
              go_wp2_with fail
              refine (HI.out).mono ?_
              rintro e w9 ⟨rfl, h9⟩
              have c1 := cellb c0 h9
              clear c0
              go_wp2
              go_ret2
              exact ⟨by rw [HR.out, HR2.out]; rfl, bthen hbw2 h9⟩
      · have hk2 : (k : Int) = most := by omega
        have HR2 := Lib.hid (show strL a b c d most.toNat 1 = (0, 7) by rw [HST.out, show most.toNat - k = 0 from by omega, strL])
        clear hk2
        go_wp2
        go_ret2
        exact ⟨by rw [HR.out, HR2.out]; rfl, hbw⟩
  · have HR := Lib.hid (show strengthRE a b c d most = (0, str1E a b c d most) by rw [strengthRE, if_pos he])
    go_wp2
    go_ret2
    exact ⟨by rw [HR.out]; rfl, hV⟩

end Go.Proofs.YtfdehcphmmhjaaaGreatDoor

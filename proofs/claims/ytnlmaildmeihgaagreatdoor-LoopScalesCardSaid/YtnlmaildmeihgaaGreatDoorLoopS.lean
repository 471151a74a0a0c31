/- Scaled polynomials. -/
import Derived.Test.YtnlmaildmeihgaaGreatDoorLoopR
namespace Go.Proofs.YtnlmaildmeihgaaGreatDoor
open Go.RowKit

/-- Euclid's way, with fuel. -/
def gcdW : Nat → Int → Int → Int
  | 0, a, _ => a
  | f + 1, a, b => if b = 0 then a else gcdW f b (a.tmod b)
def commonW (a b : Int) : Int := absW (gcdW (b.natAbs + 1) a b)

theorem tmod_lt (a b : Int) (h : b ≠ 0) : (a.tmod b).natAbs < b.natAbs := by
  rw [Int.natAbs_tmod]; exact Nat.mod_lt _ (by omega)

theorem gcdW_fuel (a b : Int) (f : Nat) (h : b.natAbs < f) : gcdW f a b = gcdW (b.natAbs + 1) a b := by
  induction f generalizing a b with
  | zero => omega
  | succ f ih =>
    rw [gcdW, gcdW]
    by_cases hb : b = 0
    · rw [if_pos hb, if_pos hb]
    · rw [if_neg hb, if_neg hb]
      have ht := tmod_lt a b hb
      rw [ih b (a.tmod b) (by omega)]
      -- the other side, with less fuel
      have key : ∀ (n m : Nat) (x y : Int), y.natAbs < n → y.natAbs < m → gcdW n x y = gcdW m x y := by
        intro n
        induction n with
        | zero => intro m x y h; omega
        | succ n ihn =>
          intro m x y h1 h2
          cases m with
          | zero => omega
          | succ m =>
            rw [gcdW, gcdW]
            by_cases hy : y = 0
            · rw [if_pos hy, if_pos hy]
            · rw [if_neg hy, if_neg hy]
              have := tmod_lt x y hy
              exact ihn m _ _ (by omega) (by omega)
      exact key _ _ _ _ (by omega) (by omega)

set_option maxHeartbeats 1000000 in
theorem common_any (a b : Int) (w : World) (ha : -9223372036854775808 ≤ a ∧ a ≤ 9223372036854775807) (hb : -9223372036854775808 ≤ b ∧ b ≤ 9223372036854775807) :
    Calls Tryz.prog 141 #[.int .i64 a, .int .i64 b] w fun e w' => e = .returned (.int .i64 (commonW a b)) ∧ Below w.heap.size w w' := by
  have HA := Lib.hid ha
  have HB := Lib.hid hb
  clear ha hb
  go_enter Tryz.func141, Tryz.ntmps141
  go_wp2
  go_loopw [0, 1] (fun va vb wr => ∃ (x y : Int) (f : Nat), va = .int .i64 x ∧ vb = .int .i64 y ∧ -9223372036854775808 ≤ x ∧ x ≤ 9223372036854775807 ∧ -9223372036854775808 ≤ y ∧ y ≤ 9223372036854775807 ∧ y.natAbs < f ∧ gcdW f x y = gcdW (b.natAbs + 1) a b ∧ Below w.heap.size w wr) (fun _ vb _ => (intOf vb).natAbs)
  case atStart => exact ⟨a, b, b.natAbs + 1, rfl, rfl, HA.out.1, HA.out.2, HB.out.1, HB.out.2, by omega, rfl, Below.refl _ _⟩
  case round =>
    obtain ⟨x, y, f, rfl, rfl, x1, x2, y1, y2, hf, hg, hbr⟩ := hrel
    have HG := Lib.hid hg
    clear hg
    by_cases h0 : y = 0
    · subst h0
      have hr : commonW a b = absW x := by
        rw [commonW, ← HG.out]
        cases f with
        | zero => omega
        | succ f => rw [gcdW, if_pos rfl]
      have HR := Lib.hid hr
      clear hr
      go_wp2
      all_goals
        go_ret
        refine ⟨ret_int ?_, hbr⟩
        rw [HR.out, absW]
        omega
    · have hy : (y == 0) = false := by simpa using h0
      have hlt := tmod_lt x y h0
      have hG2 : gcdW (f - 1) y (x.tmod y) = gcdW (b.natAbs + 1) a b := by
        rw [← HG.out]
        cases f with
        | zero => omega
        | succ f => rw [gcdW, if_neg h0, Nat.add_sub_cancel]
      have HG2 := Lib.hid hG2
      have HLT := Lib.hid hlt
      clear hG2 hlt HG
      go_wp2_with fail
      refine wp_region_held_drew (S := (fun _ => True)) (by kernel_rfl) ?_ (fun hHeld0 => ?_)
      · (try dsimp only); (first | done | trivial)
      refine wpAnyH_take (i := 0) (oi := { dst := some 7, op := Op.move (Operand.tmp 1), type := 3, pos := "loop.go:278", after := #[], guard := none }) (v := ?_) rfl (by kernel_rfl) (by kernel_rfl) (by kernel_rfl) (fun _ _ _ h => h) (Or.inl ⟨by rfl, ?_⟩) (by assumption) ?_
      rotate_left
      · (intro w hSw; (try dsimp only at hSw); go_simp); (try with_reducible rfl)
      try simp only [Act.put, List.setIfInBounds_toArray, List.set_cons_zero, List.set_cons_succ]
      refine wpAnyH_take (i := 1) (oi := { dst := some 8, op := Op.move (Operand.tmp 0), type := 3, pos := "loop.go:278", after := #[], guard := none }) (v := ?_) rfl (by kernel_rfl) (by kernel_rfl) (by kernel_rfl) (fun _ _ _ h => h) (Or.inl ⟨by rfl, ?_⟩) (by assumption) ?_
      rotate_left
      · (intro w hSw; (try dsimp only at hSw); go_simp); (try with_reducible rfl)
      try simp only [Act.put, List.setIfInBounds_toArray, List.set_cons_zero, List.set_cons_succ]
      refine wpAnyH_take (i := 2) (oi := { dst := some 9, op := Op.move (Operand.tmp 1), type := 3, pos := "loop.go:278", after := #[], guard := none }) (v := ?_) rfl (by kernel_rfl) (by kernel_rfl) (by kernel_rfl) (fun _ _ _ h => h) (Or.inl ⟨by rfl, ?_⟩) (by assumption) ?_
      rotate_left
      · (intro w hSw; (try dsimp only at hSw); go_simp); (try with_reducible rfl)
      try simp only [Act.put, List.setIfInBounds_toArray, List.set_cons_zero, List.set_cons_succ]
      refine wpAnyH_take (i := 3) (oi := { dst := some 10, op := Op.binOp BinOp.rem 3 (Operand.tmp 8) (Operand.tmp 9) 3, type := 3, pos := "loop.go:278", after := #[{ on := 1, ground := Ground.data }, { on := 2, ground := Ground.data }], guard := none }) (v := ?_) rfl (by kernel_rfl) (by kernel_rfl) (by kernel_rfl) (fun _ _ _ h => h) (Or.inl ⟨by rfl, ?_⟩) (by assumption) ?_
      rotate_left
      · (intro w hSw; (try dsimp only at hSw); go_simp); (try with_reducible rfl)
      try simp only [Act.put, List.setIfInBounds_toArray, List.set_cons_zero, List.set_cons_succ]
      refine wpAnyH_take (i := 4) (oi := { dst := some 0, op := Op.assign (Operand.tmp 7), type := 3, pos := "loop.go:278", after := #[{ on := 0, ground := Ground.data }, { on := 0, ground := Ground.phase }, { on := 1, ground := Ground.phase }, { on := 2, ground := Ground.textOnly Departure.lateStores }, { on := 3, ground := Ground.textOnly Departure.lateStoresUnsure }], guard := none }) (v := ?_) rfl (by kernel_rfl) (by kernel_rfl) (by kernel_rfl) (fun _ _ _ h => h) (Or.inl ⟨by rfl, ?_⟩) (by assumption) ?_
      rotate_left
      · (intro w hSw; (try dsimp only at hSw); go_simp); (try with_reducible rfl)
      try simp only [Act.put, List.setIfInBounds_toArray, List.set_cons_zero]
      refine wpAnyH_take (i := 5) (oi := { dst := some 1, op := Op.assign (Operand.tmp 10), type := 3, pos := "loop.go:278", after := #[{ on := 3, ground := Ground.data }, { on := 4, ground := Ground.chain }, { on := 0, ground := Ground.phase }, { on := 1, ground := Ground.phase }, { on := 2, ground := Ground.phase }, { on := 3, ground := Ground.phase }, { on := 4, ground := Ground.phase }], guard := none }) (v := ?_) rfl (by kernel_rfl) (by kernel_rfl) (by kernel_rfl) (fun _ _ _ h => h) (Or.inl ⟨by rfl, ?_⟩) (by assumption) ?_
      rotate_left
      · (intro w hSw; (try dsimp only at hSw); go_simp); (try with_reducible rfl)
      try simp only [Act.put, List.setIfInBounds_toArray, List.set_cons_zero, List.set_cons_succ]
      refine wpAnyH_done (by kernel_rfl) ?_ _
      clear hHeld0
      go_wp2
      go_roundw
      case rel =>
        have h := HLT.out
        exact ⟨y, x.tmod y, f - 1, rfl, rfl, y1, y2, by omega, by omega, by omega, HG2.out, hbr.drew⟩
      case measure => simp only [intOf]; exact HLT.out

theorem gcdW_ne (f : Nat) (a b : Int) (h : a ≠ 0 ∨ b ≠ 0) (hf : b.natAbs < f) : gcdW f a b ≠ 0 ∧ (gcdW f a b).natAbs ≤ max a.natAbs b.natAbs := by
  induction f generalizing a b with
  | zero => omega
  | succ f ih =>
    rw [gcdW]
    by_cases hb : b = 0
    · rw [if_pos hb]; exact ⟨by rcases h with h | h; exact h; exact absurd hb h, by omega⟩
    · rw [if_neg hb]
      have := tmod_lt a b hb
      obtain ⟨h1, h2⟩ := ih b (a.tmod b) (.inl hb) (by omega)
      exact ⟨h1, by omega⟩
theorem gcdW_le (f : Nat) (a b : Int) : (gcdW f a b).natAbs ≤ max a.natAbs b.natAbs := by
  induction f generalizing a b with
  | zero => rw [gcdW]; omega
  | succ f ih =>
    rw [gcdW]
    by_cases hb : b = 0
    · rw [if_pos hb]; omega
    · rw [if_neg hb]
      have := tmod_lt a b hb
      have := ih b (a.tmod b)
      omega
theorem commonW_bd (a b : Int) (n : Nat) (ha : a.natAbs ≤ n) (hb : b.natAbs ≤ n) (hn : n ≤ 4611686018427387904) : 0 ≤ commonW a b ∧ commonW a b ≤ n ∧ ((a ≠ 0 ∨ b ≠ 0) → 1 ≤ commonW a b) := by
  have h1 := gcdW_le (b.natAbs + 1) a b
  have h2 := fun h => (gcdW_ne (b.natAbs + 1) a b h (by omega)).1
  unfold commonW absW
  generalize gcdW (b.natAbs + 1) a b = g at h1 h2
  rw [IntWalk.wrap64_in (-g) (by omega)]
  refine ⟨by omega, by omega, fun h => ?_⟩
  have := h2 h
  omega

/-- a coefficient of a scaled polynomial, ahead of the division. -/
def scaleK (p : List Int) (num den : Int) (k : Nat) : Int := wrap64 (wrap64 (p[k]?.getD 0 * powW num (p.length - 1 - k)) * powW den k)
def allK (p : List Int) (num den : Int) : Nat → Int
  | 0 => 0
  | k + 1 => commonW (allK p num den k) (scaleK p num den k)
def scaledW (p : List Int) (num den : Int) : List Int := upto (fun k => wrap64 ((scaleK p num den k).tdiv (allK p num den p.length))) p.length

theorem powW_small {a : Int} {n : Nat} (h1 : 1 ≤ a) (h2 : a ≤ 4) (hn : n ≤ 4) : 1 ≤ powW a n ∧ powW a n ≤ 256 := by
  have key : ∀ a : Fin 4, ∀ n : Fin 5, 1 ≤ powW ((a.val : Int) + 1) n.val ∧ powW ((a.val : Int) + 1) n.val ≤ 256 := by decide +kernel
  have := key ⟨(a - 1).toNat, by omega⟩ ⟨n, by omega⟩
  simp only at this
  rw [show (((a - 1).toNat : Nat) : Int) + 1 = a from by omega] at this
  exact this

/-- the polynomial is checked, the numbers are from 1 to 4. -/
structure ScaleP (p : List Int) (num den : Int) : Prop where
  hp : checkPolyE p = 0
  hnum : 1 ≤ num ∧ num ≤ 4
  hden : 1 ≤ den ∧ den ≤ 4

theorem checkPolyE_range {p : List Int} (h : checkPolyE p = 0) : (∀ x ∈ p, -100 ≤ x ∧ x ≤ 100) ∧ p[p.length - 1]?.getD 0 ≠ 0 := by
  have hl := checkPolyE_ok h
  unfold checkPolyE at h
  rw [if_neg (by omega), if_neg (by omega)] at h
  obtain ⟨h1, h2⟩ := firstE_cons_ok h
  obtain ⟨h2, _⟩ := firstE_cons_ok h2
  refine ⟨fun x hx => withinE_ok (firstE_map_ok h1 x hx), fun h0 => ?_⟩
  have := whenE_ok h2 (by decide)
  rw [h0] at this
  simp at this

theorem scaleK_bd {p : List Int} {num den : Int} (h : ScaleP p num den) (k : Nat) (hk : k < p.length) : scaleK p num den k = p[k]?.getD 0 * powW num (p.length - 1 - k) * powW den k ∧ (scaleK p num den k).natAbs ≤ 6553600 := by
  have hl := checkPolyE_ok h.hp
  have hx : -100 ≤ p[k]?.getD 0 ∧ p[k]?.getD 0 ≤ 100 := by
    rw [List.getElem?_eq_getElem hk]
    exact (checkPolyE_range h.hp).1 _ (List.getElem_mem hk)
  have h1 := powW_small (n := p.length - 1 - k) h.hnum.1 h.hnum.2 (by omega)
  have h2 := powW_small (n := k) h.hden.1 h.hden.2 (by omega)
  unfold scaleK
  generalize p[k]?.getD 0 = x at hx
  generalize powW num (p.length - 1 - k) = u at h1
  generalize powW den k = v at h2
  have b1 : (x * u).natAbs ≤ 100 * 256 := by rw [Int.natAbs_mul]; exact Nat.mul_le_mul (by omega) (by omega)
  have b2 : (x * u * v).natAbs ≤ 100 * 256 * 256 := by rw [Int.natAbs_mul]; exact Nat.mul_le_mul b1 (by omega)
  rw [IntWalk.wrap64_in (x * u) (by omega), IntWalk.wrap64_in (x * u * v) (by omega)]
  exact ⟨rfl, b2⟩
theorem allK_bd {p : List Int} {num den : Int} (h : ScaleP p num den) (k : Nat) (hk : k ≤ p.length) : 0 ≤ allK p num den k ∧ allK p num den k ≤ 6553600 := by
  induction k with
  | zero => rw [allK]; omega
  | succ k ih =>
    have h1 := ih (by omega)
    have h2 := (scaleK_bd h k (by omega)).2
    have := commonW_bd (allK p num den k) (scaleK p num den k) 6553600 (by omega) (by omega) (by decide)
    rw [allK]
    exact ⟨this.1, this.2.1⟩
theorem allK_pos {p : List Int} {num den : Int} (h : ScaleP p num den) : 1 ≤ allK p num den p.length := by
  have hl := checkPolyE_ok h.hp
  obtain ⟨n, hn⟩ : ∃ n, p.length = n + 1 := ⟨p.length - 1, by omega⟩
  have h1 := allK_bd h n (by omega)
  obtain ⟨e, h2⟩ := scaleK_bd h n (by omega)
  rw [hn, allK]
  refine (commonW_bd (allK p num den n) (scaleK p num den n) 6553600 (by omega) (by omega) (by decide)).2.2 (.inr ?_)
  have hz := (checkPolyE_range h.hp).2
  rw [hn, Nat.add_sub_cancel] at hz
  have p1 := powW_small (n := p.length - 1 - n) h.hnum.1 h.hnum.2 (by omega)
  have p2 := powW_small (n := n) h.hden.1 h.hden.2 (by omega)
  rw [e]
  exact Int.mul_ne_zero (Int.mul_ne_zero hz (by omega)) (by omega)

end Go.Proofs.YtnlmaildmeihgaaGreatDoor

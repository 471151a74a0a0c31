/- The reference: sides and points of a polygon; copies of slices of pairs. (printed by gen/harQa.py) -/
import Derived.Test.YtfeajpkjjlddlaaGreatDoorHpJ
import Derived.Test.YtfeajpkjjlddlaaGreatDoorHarS
namespace Go.Proofs.YtfeajpkjjlddlaaGreatDoor
section
set_option linter.unusedSimpArgs false
set_option linter.unusedVariables false
open Go.RowKit

def crossF (a b c d : Int × Int) : Int := wrap64 (wrap64 (wrap64 (b.1 - a.1) * wrap64 (d.2 - c.2)) - wrap64 (wrap64 (b.2 - a.2) * wrap64 (d.1 - c.1)))
/-- a point within the bounds. -/
def PtOk (p : Int × Int) : Prop := (-1000 ≤ p.1 ∧ p.1 ≤ 1000) ∧ (-1000 ≤ p.2 ∧ p.2 ≤ 1000)
theorem pointE_ok {p : Int × Int} (h : pointE p = 0) : PtOk p := by
  unfold pointE allE at h
  have hm := firstE_mapOk h
  exact ⟨withinE_zero (hm p.1 (by simp)), withinE_zero (hm p.2 (by simp))⟩
theorem diff2 {u v x y : Int} (hu : -2000 ≤ u ∧ u ≤ 2000) (hv : -2000 ≤ v ∧ v ≤ 2000) (hx : -2000 ≤ x ∧ x ≤ 2000) (hy : -2000 ≤ y ∧ y ≤ 2000) : wrap64 (wrap64 (u * v) - wrap64 (x * y)) = u * v - x * y := by
  have a := mulBd (A := 2000) (B := 2000) hu hv
  have b := mulBd (A := 2000) (B := 2000) hx hy
  rw [wrapSm (x := u * v) (by omega), wrapSm (x := x * y) (by omega), wrapSm (by omega)]
theorem cross_ex {a b c d : Int × Int} (ha : PtOk a) (hb : PtOk b) (hc : PtOk c) (hd : PtOk d) : crossF a b c d = (b.1 - a.1) * (d.2 - c.2) - (b.2 - a.2) * (d.1 - c.1) := by
  unfold PtOk at *
  unfold crossF
  rw [wrapSm (x := b.1 - a.1) (by omega), wrapSm (x := d.2 - c.2) (by omega), wrapSm (x := b.2 - a.2) (by omega), wrapSm (x := d.1 - c.1) (by omega)]
  exact diff2 (by omega) (by omega) (by omega) (by omega)
theorem side_ex {a b p : Int × Int} (ha : PtOk a) (hb : PtOk b) (hp : PtOk p) : sideE (a.1, a.2, b.1, b.2) p 1 = (b.1 - a.1) * (p.2 - a.2) - (b.2 - a.2) * (p.1 - a.1) := by
  unfold PtOk at *
  unfold sideE
  simp only [Int.one_mul]
  rw [wrapSm (x := a.2) (by omega), wrapSm (x := a.1) (by omega), wrapSm (x := b.1 - a.1) (by omega), wrapSm (x := p.2 - a.2) (by omega), wrapSm (x := b.2 - a.2) (by omega), wrapSm (x := p.1 - a.1) (by omega)]
  exact diff2 (by omega) (by omega) (by omega) (by omega)
theorem cross_side {a b p : Int × Int} (ha : PtOk a) (hb : PtOk b) (hp : PtOk p) : crossF a b a p = sideE (a.1, a.2, b.1, b.2) p 1 := by rw [cross_ex ha hb ha hp, side_ex ha hb hp]
theorem cross_turn {a b c : Int × Int} (ha : PtOk a) (hb : PtOk b) (hc : PtOk c) : crossF a b b c = sideE (a.1, a.2, b.1, b.2) c 1 := by
  rw [cross_ex ha hb hb hc, side_ex ha hb hc]
  obtain ⟨a0, a1⟩ := a
  obtain ⟨b0, b1⟩ := b
  obtain ⟨c0, c1⟩ := c
  simp only
  grind
theorem Pairs.src {P : Program} {w : World} {v : Value} {l : List (Int × Int)} (h : Pairs w v l) {tx e : TypeId} (hk : P.underlying tx = some (.slice e)) (h0 : 0 < l.length) : Src P 2 tx v l.length ((flat2 l).map (Value.int .i64)) w := by
  obtain ⟨b, off, cap, rfl, hcs⟩ := h.head h0
  exact Src.ofSlice w hk _ _ _ _ (by rw [List.length_map, flat2_length]) (fun j u hj => flat2_src hcs j u hj) (by intro u hu; simp at hu; obtain ⟨x, _, rfl⟩ := hu; rfl)
theorem Pairs.of_own {w : World} {base : Nat} {e : TypeId} {v : Value} {l : List (Int × Int)} (h : w.ownsRow base e 2 v l.length ((flat2 l).map (Value.int .i64))) : Pairs w v l := by
  rcases h.2 with ⟨hv, hn⟩ | ⟨g, cap, cur, hv, _, hg, hc, _, hcs, ht⟩
  · exact ⟨none, 0, by rw [hv, hn], by omega, fun h0 => by omega⟩
  · refine ⟨some ⟨g, 0, none⟩, cap, hv, hc, fun _ => ⟨g, 0, rfl, fun j x hj => ?_⟩⟩
    have hcell : ∀ (k : Nat) (u : Int), (flat2 l)[k]? = some u → w.cell? ⟨g, k, none⟩ = some (.int .i64 u) := fun k u hk => by
      have hlt : k < l.length * 2 := by
        have h1 := (List.getElem?_eq_some_iff.1 hk).1
        rw [flat2_length] at h1; exact h1
      have e := congrArg (fun x : List Value => x[k]?) ht
      simp only [List.getElem?_take] at e
      rw [if_pos hlt, List.getElem?_map, hk] at e
      have : cur[k]? = some (.int .i64 u) := by rw [← Array.getElem?_toList]; exact e
      simp [World.cell?, hg, this]
    obtain ⟨h0, h1⟩ := flat2_get l j x hj
    rw [Nat.zero_add]
    exact ⟨hcell _ _ h0, hcell _ _ h1⟩
theorem Pairs.nil' (w : World) (a : Option Addr) (c : Nat) : Pairs w (.slice a 0 c) [] := ⟨a, c, rfl, by simp, fun h => by simp at h⟩
theorem wpList_append_empty {P : Program} {ops : Array Oper} {rest : List Oper} {o : Oper} {a : Act} {w : World} {Q : Exit → Act → World → Prop} (hgd : o.guard = none) (s x : Operand) (t tx e e' : TypeId)
    (ho : o.op = .call { callee := .builtin .append, args := #[s, x], argTypes := #[t, tx] })
    (i : TypeInfo) (z : Value) (ht : P.underlying t = some (.slice e)) (htx : P.underlying tx = some (.slice e')) (hi : P.info? e = some i) (hz : i.zero = some z)
    (g og : Nat) (hs : a.eval s = .slice (some ⟨g, og, none⟩) 0 0) (xa : Option Addr) (c : Nat) (hx : a.eval x = .slice xa 0 c)
    (h : wpList P ops Q rest (a.put o.dst (.slice (some ⟨g, og, none⟩) 0 0)) w) : wpList P ops Q (o :: rest) a w := by
  refine wpList_plain hgd fun K hK => ?_
  have hr := run_append_empty (P := P) w t tx o.type e e' i z ht htx hi hz g og xa c
  unfold Oper.wp execOp
  simp only [ho, resolve, invoke, builtin, Sem.run_bind, Sem.run_pure, Result.andThen_ok, List.map_toArray, List.map_cons, List.map_nil, hs, hx, hr]
  exact hK _ _ h
theorem Tryz.infoGauss3 : (Tryz.prog.info? 86).map (fun i => (i.zero, i.size, i.bytes)) = some (some (.agg #[.int .i64 0, .int .i64 0]), 2, 16) := by kernel_rfl
theorem Tryz.undGausses : Tryz.prog.underlying 80 = some (.slice 86) := by kernel_rfl
end

section
set_option linter.unusedSimpArgs false
set_option linter.unusedVariables false
open Go.RowKit

theorem any_take_cons {α : Type} {g : α → Bool} {l : List α} {k : Nat} {x : α} (hk : l[k]? = some x) (hx : g x = true) : l.any g = true :=
  List.any_eq_true.2 ⟨x, List.mem_of_getElem? hk, hx⟩
end

section
set_option linter.unusedSimpArgs false
set_option linter.unusedVariables false
open Go.RowKit

def dirE (d : Int × Int) : Int := firstE [pointE d, whenE (d.1 == 0 && d.2 == 0) 6]
/-- no edge has the point to its right. -/
def insR (l : List (Int × Int)) (p : Int × Int) : Bool := !((List.range l.length).any fun k => negB (crossF (l[k]?.getD (0, 0)) (l[(k + 1) % l.length]?.getD (0, 0)) (l[k]?.getD (0, 0)) p))
/-- the first of the greatest sums so far. -/
def bestN (l : List (Int × Int)) (d : Int × Int) : Nat → Nat
  | 0 => 0
  | k + 1 => bif decide (sumG d (l[bestN l d k]?.getD (0, 0)) < sumG d (l[k]?.getD (0, 0))) then k else bestN l d k
theorem bestN_lt (l : List (Int × Int)) (d : Int × Int) (k : Nat) : bestN l d k ≤ k := by
  induction k with
  | zero => exact Nat.le_refl _
  | succ k ih =>
    rw [bestN]
    cases decide (sumG d (l[bestN l d k]?.getD (0, 0)) < sumG d (l[k]?.getD (0, 0)))
    · exact Nat.le_trans ih (Nat.le_succ _)
    · exact Nat.le_succ _
end

end Go.Proofs.YtfeajpkjjlddlaaGreatDoor

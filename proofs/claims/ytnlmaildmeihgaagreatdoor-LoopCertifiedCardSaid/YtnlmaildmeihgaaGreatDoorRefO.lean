/- The reference's CheckBox and Certify; the law's own 'box'. -/
import Derived.Test.YtnlmaildmeihgaaGreatDoorRefN
namespace Go.Proofs.YtnlmaildmeihgaaGreatDoor
open Go.RowKit

/-- the cells of a list of pairs. -/
def pairV : List (Int × Int) → List Value
  | [] => []
  | x :: l => .int .i64 x.1 :: .int .i64 x.2 :: pairV l
theorem pairV_length (l : List (Int × Int)) : (pairV l).length = l.length * 2 := by
  induction l with
  | nil => rfl
  | cons x l ih => simp [pairV, ih]; omega
theorem pairV_at (l : List (Int × Int)) (k : Nat) (x : Int × Int) (h : l[k]? = some x) : (pairV l)[k * 2]? = some (.int .i64 x.1) ∧ (pairV l)[k * 2 + 1]? = some (.int .i64 x.2) := by
  induction l generalizing k with
  | nil => simp at h
  | cons y l ih =>
    cases k with
    | zero => simp at h; subst h; exact ⟨rfl, rfl⟩
    | succ k =>
      obtain ⟨h1, h2⟩ := ih k (by simpa using h)
      rw [show (k + 1) * 2 = k * 2 + 1 + 1 by omega, show k * 2 + 1 + 1 + 1 = (k * 2 + 1) + 1 + 1 by omega]
      exact ⟨by simpa [pairV] using h1, by simpa [pairV] using h2⟩
theorem pairV_inv (l : List (Int × Int)) (j : Nat) (u : Value) (h : (pairV l)[j]? = some u) : ∃ k x, l[k]? = some x ∧ ((j = k * 2 ∧ u = .int .i64 x.1) ∨ (j = k * 2 + 1 ∧ u = .int .i64 x.2)) := by
  have hj := (List.getElem?_eq_some_iff.1 h).1
  rw [pairV_length] at hj
  obtain ⟨x, hx⟩ : ∃ x, l[j / 2]? = some x := ⟨_, List.getElem?_eq_getElem (by omega)⟩
  obtain ⟨h1, h2⟩ := pairV_at l _ x hx
  refine ⟨j / 2, x, hx, ?_⟩
  rcases Nat.mod_two_eq_zero_or_one j with h0 | h0
  · left
    rw [show j / 2 * 2 = j by omega, h] at h1
    exact ⟨by omega, Option.some.inj h1⟩
  · right
    rw [show j / 2 * 2 + 1 = j by omega, h] at h2
    exact ⟨by omega, Option.some.inj h2⟩
theorem Pairs.src {P : Program} {w : World} {v : Value} {l : List (Int × Int)} (h : Pairs w v l) {tx e : TypeId} (hk : P.underlying tx = some (.slice e)) (h0 : 0 < l.length) : Src P 2 tx v l.length (pairV l) w := by
  obtain ⟨a, cap, rfl, _, hc⟩ := h
  obtain ⟨b, off, rfl, hcs⟩ := hc h0
  refine Src.ofSlice w hk _ _ _ _ (pairV_length l) (fun j u hj => ?_) (fun u hu => ?_)
  · obtain ⟨k, x, hx, h⟩ := pairV_inv l j u hj
    obtain ⟨c0, c1⟩ := hcs k x hx
    rcases h with ⟨rfl, rfl⟩ | ⟨rfl, rfl⟩
    · rw [addr_add]; exact c0
    · rw [addr_add, ← Nat.add_assoc]; exact c1
  · obtain ⟨j, hj, rfl⟩ := List.getElem_of_mem hu
    obtain ⟨k, x, hx, h⟩ := pairV_inv l j _ (List.getElem?_eq_getElem hj)
    rcases h with ⟨_, h⟩ | ⟨_, h⟩ <;> rw [h] <;> rfl
theorem Pairs.of_own {w : World} {base e : Nat} {v : Value} {l : List (Int × Int)} (h : w.ownsRow base e 2 v l.length (pairV l)) : Pairs w v l := by
  obtain ⟨h1, h2⟩ := h
  rcases h2 with ⟨rfl, h2⟩ | ⟨g, cap, cur, rfl, hg, hh, hnc, hcap, hcs, htk⟩
  · exact ⟨none, 0, by rw [h2], by omega, fun h => by omega⟩
  · refine ⟨some ⟨g, 0, none⟩, cap, rfl, hnc, fun hl => ⟨g, 0, rfl, fun j x hj => ?_⟩⟩
    have hc : ∀ k u, (pairV l)[k]? = some u → w.cell? ⟨g, 0 + k, none⟩ = some u := fun k u hk => by
      rw [← htk, List.getElem?_take] at hk
      split at hk
      · rw [Array.getElem?_toList] at hk
        simp [World.cell?, hh, hk]
      · cases hk
    obtain ⟨p1, p2⟩ := pairV_at l j x hj
    exact ⟨hc _ _ p1, by have := hc _ _ p2; rwa [← Nat.add_assoc] at this⟩

theorem Tryz.infoInterval : (Tryz.prog.info? 148).map (fun i => (i.zero, i.size, i.bytes)) = some (some (.agg #[.int .i64 0, .int .i64 0]), 2, 16) := by kernel_rfl

theorem wpList_append_nil {P : Program} {ops : Array Oper} {rest : List Oper} {o : Oper} {a : Act} {w : World} {Q : Exit → Act → World → Prop} (hgd : o.guard = none) (s x : Operand) (t tx e e' : TypeId)
    (ho : o.op = .call { callee := .builtin .append, args := #[s, x], argTypes := #[t, tx] })
    (i : TypeInfo) (z : Value) (ht : P.underlying t = some (.slice e)) (htx : P.underlying tx = some (.slice e')) (hi : P.info? e = some i) (hz : i.zero = some z)
    (g og : Nat) (hs : a.eval s = .slice (some ⟨g, og, none⟩) 0 0) (ad : Option Addr) (c : Nat) (hx : a.eval x = .slice ad 0 c)
    (h : wpList P ops Q rest (a.put o.dst (.slice (some ⟨g, og, none⟩) 0 0)) w) : wpList P ops Q (o :: rest) a w :=
  wpList_plain hgd fun _ hK => by
    unfold Oper.wp execOp
    simp only [ho, resolve, invoke, builtin, Sem.run_bind, Sem.run_pure, Result.andThen_ok, List.map_toArray, List.map_cons, List.map_nil, hs, hx, run_append_empty w t tx o.type e e' i z ht htx hi hz g og ad c]
    exact hK _ _ h

set_option maxHeartbeats 1000000 in
theorem box_any (v : Value) (l : List (Int × Int)) (w : World) (hv : Pairs w v l) (hl : l.length ≤ 1000000) :
    Calls Tryz.prog 37 #[v] w fun e w' => (∃ u, e = .returned u ∧ Pairs w' u l) ∧ Below w.heap.size w w' := by
  obtain ⟨a, cap, rfl, _⟩ := id hv
  obtain ⟨i0, hi, hz0, hz1, hz2⟩ := info_parts Tryz.infoInterval
  have kW1 := below_new w (Obj.cells #[] 148)
  rcases Nat.eq_zero_or_pos l.length with h0 | h0
  · obtain rfl : l = [] := List.length_eq_zero_iff.1 h0
    go_enter Tryz.func37, Tryz.ntmps37
    go_wp2_with (at_builtin; refine wpList_append_nil rfl (.tmp 3) (.tmp 4) 67 64 148 148 rfl i0 (.agg #[.int .i64 0, .int .i64 0]) Tryz.underlying67 Tryz.underlying64 hi hz0 w.heap.size 0 rfl a cap rfl ?_)
    go_ret
    exact ⟨⟨_, rfl, ⟨_, 0, rfl, Nat.le_refl _, fun h => by simp at h⟩⟩, kW1⟩
  · have hsrc := (hv.carry kW1).src Tryz.underlying64 h0
    go_enter Tryz.func37, Tryz.ntmps37
    go_wp2_with (at_builtin; refine wpList_append_freshO rfl (.tmp 3) (.tmp 4) 67 64 148 rfl i0 (.agg #[.int .i64 0, .int .i64 0]) 2 16 Tryz.underlying67 hi hz0 hz1 hz2 rfl w.heap.size 0 rfl _ l.length (pairV l) rfl hsrc h0 (by unfold maxLen; omega) (by omega) ?_; intro u w2 hu hb2)
    go_ret
    exact ⟨⟨_, rfl, Pairs.of_own hu⟩, bthen kW1 hb2⟩

theorem firstE_mapP_take {α : Type} (f : α → Int) (l : List α) (k : Nat) (h : firstE ((l.take k).map f) ≠ 0) : firstE (l.map f) = firstE ((l.take k).map f) := by
  rw [List.map_take] at h ⊢
  exact firstE_of_take _ _ h
theorem firstE_mapP_succ {α : Type} (f : α → Int) (l : List α) (k : Nat) (x : α) (hk : l[k]? = some x) (h : firstE ((l.take k).map f) = 0) : firstE ((l.take (k + 1)).map f) = f x := by
  rw [List.map_take] at h ⊢
  rw [firstE_take_succ _ k (by simp; exact (List.getElem?_eq_some_iff.1 hk).1) h, List.getElem?_map, hk]
  rfl
theorem box1_loop {a b c d : List Int} {bx : List (Int × Int)} (h : checkLoopE a b c d ≠ 0) : checkBoxE a b c d bx = checkLoopE a b c d := by
  have : box1E a b c d bx = checkLoopE a b c d := by unfold box1E; rw [firstE, if_neg h]
  rw [checkBoxE, this, if_pos h]
theorem box1_shape {a b c d : List Int} {bx : List (Int × Int)} (h : checkLoopE a b c d = 0) (hl : bx.length ≠ a.length) : checkBoxE a b c d bx = 2 := by
  have : box1E a b c d bx = 2 := by
    unfold box1E
    rw [firstE, if_pos h, show ((bx.length : Int) != (a.length : Int)) = true by rw [bne_iff_ne]; omega]
    rfl
  rw [checkBoxE, this]; rfl
theorem box1_intervals {a b c d : List Int} {bx : List (Int × Int)} (h : checkLoopE a b c d = 0) (hl : bx.length = a.length) : box1E a b c d bx = intervalsE bx := by
  unfold box1E
  rw [firstE, if_pos h, show ((bx.length : Int) != (a.length : Int)) = false by rw [bne_eq_false_iff_eq]; omega]
  show firstE [0, intervalsE bx] = _
  rw [firstE, if_pos rfl, firstE]
  split
  · rename_i h; rw [h]; rfl
  · rfl
theorem box1_bad {a b c d : List Int} {bx : List (Int × Int)} (h : checkLoopE a b c d = 0) (hl : bx.length = a.length) (hi : intervalsE bx ≠ 0) : checkBoxE a b c d bx = intervalsE bx := by
  rw [checkBoxE, box1_intervals h hl, if_pos hi]
theorem box2_zero {a b c d : List Int} {bx : List (Int × Int)} (h : checkLoopE a b c d = 0) (hl : bx.length = a.length) (hi : intervalsE bx = 0) (h2 : (lastP bx).1 ≤ 0 ∧ 0 ≤ (lastP bx).2) : checkBoxE a b c d bx = 6 := by
  have : box2E bx = 6 := by unfold box2E; rw [decide_eq_true h2]; rfl
  rw [checkBoxE, box1_intervals h hl, if_neg (by rw [hi]; simp), this]; rfl
theorem box2_many {a b c d : List Int} {bx : List (Int × Int)} (h : checkLoopE a b c d = 0) (hl : bx.length = a.length) (hi : intervalsE bx = 0) (h2 : ¬ ((lastP bx).1 ≤ 0 ∧ 0 ≤ (lastP bx).2)) (h3 : 256 < manyW bx bx.length) : checkBoxE a b c d bx = 5 := by
  have : box2E bx = 5 := by unfold box2E; rw [decide_eq_false h2, decide_eq_true h3]; rfl
  rw [checkBoxE, box1_intervals h hl, if_neg (by rw [hi]; simp), this]; rfl
theorem box3 {a b c d : List Int} {bx : List (Int × Int)} (h : checkLoopE a b c d = 0) (hl : bx.length = a.length) (hi : intervalsE bx = 0) (h2 : ¬ ((lastP bx).1 ≤ 0 ∧ 0 ≤ (lastP bx).2)) (h3 : ¬ 256 < manyW bx bx.length) : checkBoxE a b c d bx = if (membersW bx).any (fun p => (closedW p b c d).any largeB) then 4 else 0 := by
  have : box2E bx = 0 := by unfold box2E; rw [decide_eq_false h2, decide_eq_false h3]; rfl
  rw [checkBoxE, box1_intervals h hl, if_neg (by rw [hi]; simp), this, if_neg (by simp)]
theorem boxE_of {x : Int × Int} : boxE x = if firstE [withinE x.1 (-100) 100, withinE x.2 (-100) 100] ≠ 0 then firstE [withinE x.1 (-100) 100, withinE x.2 (-100) 100] else if x.2 < x.1 then 11 else 0 := by
  unfold boxE coefE
  simp only [firstE, whenE]
  by_cases h1 : withinE x.1 (-100) 100 = 0
  · by_cases h2 : withinE x.2 (-100) 100 = 0
    · by_cases h3 : x.2 < x.1
      · simp [h1, h2, h3]
      · simp [h1, h2, h3]
    · simp [h1, h2]
  · simp [h1]

end Go.Proofs.YtnlmaildmeihgaaGreatDoor

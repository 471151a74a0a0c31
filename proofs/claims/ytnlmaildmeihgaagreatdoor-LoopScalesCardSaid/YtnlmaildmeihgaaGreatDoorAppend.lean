/- 'append' onto an empty slice that stands written out ('append(T{}, l...)'), from a slice of whatever slice type. -/
import Derived.Test.YtnlmaildmeihgaaGreatDoorOwn
import Derived.Deep.AppendSrc
namespace Go.Proofs.YtnlmaildmeihgaaGreatDoor
open Go.RowKit

theorem Ints.carry {w w' : World} {v : Value} {l : List Int} (h : Ints w v l) (hb : Below w.heap.size w w') : Ints w' v l := h.below hb
theorem Box2.carry {w w' : World} {B : Nat} {a b : Value} (h : Box2 w B a b) (hb : Below w.heap.size w w') : Box2 w' B a b := h.below hb h.lt

theorem run_append_fresh {P : Program} (w : World) (t tx ty e e' : TypeId) (i : TypeInfo) (z : Value) (ht : P.underlying t = some (.slice e)) (htx : P.underlying tx = some (.slice e')) (hi : P.info? e = some i) (hz : i.zero = some z) (hs1 : i.size = 1) (hby : i.bytes = 8)
    (g o : Nat) (v : Value) (l : List Int) (hv : Ints w v l) (hl : l.length ≤ 1000000000) :
    ∃ b off cap w', (Builtin.append_ #[t, tx] ty #[.slice (some ⟨g, o, none⟩) 0 0, v]).run P w = .ok (.slice (some ⟨b, off, none⟩) l.length cap) w' ∧ Ints w' (.slice (some ⟨b, off, none⟩) l.length cap) l ∧ Below w.heap.size w w' := by
  obtain ⟨a, cp, rfl, hc, hv⟩ := hv
  rcases Nat.eq_zero_or_pos l.length with h0 | h0
  · obtain rfl : l = [] := List.length_eq_zero_iff.1 h0
    refine ⟨g, o, 0, w, ?_, ⟨_, 0, rfl, by simp, fun h => by simp at h⟩, Below.refl _ _⟩
    have hf : ∀ (x : Value), (∃ a c, x = .slice a 0 c) → (Builtin.firstCells 1 0 x).run P w = .ok #[] w := fun x ⟨a, c, hx⟩ => by
      subst hx
      cases a with
      | none => exact run_firstCells_none w 1 0 0 c
      | some a => exact run_firstCells_some w 1 0 a 0 c [] (by simp) (by simp)
    simp [Builtin.append_, run_underlying ht, run_underlying htx, sizeOf, typeInfo, hi, hs1, Builtin.lenOf, hf _ ⟨a, cp, rfl⟩, storeCells]
  · obtain ⟨b, off, rfl, hcs⟩ := hv h0
    have hsrc : Src P i.size tx (.slice (some ⟨b, off, none⟩) l.length cp) l.length (l.map (Value.int .i64)) w := Src.ofSlice w htx ⟨b, off, none⟩ l.length cp (l.map (Value.int .i64)) (by simp [hs1]) (fun j u hj => by
      rw [List.getElem?_map] at hj
      cases hq : l[j]? with
      | none => rw [hq] at hj; simp at hj
      | some x =>
        rw [hq] at hj
        rw [addr_add, hcs j (List.getElem?_eq_some_iff.1 hq).1, hq]; simpa using hj) (by intro u hu; simp at hu; obtain ⟨x, _, rfl⟩ := hu; rfl)
    have hrun := run_append_grow_src (P := P) (w := w) t tx ty e i z ht hi hz (some ⟨g, o, none⟩) 0 0 [] (run_firstCells_some w.drew i.size 0 ⟨g, o, none⟩ 0 0 [] (by simp) (by simp)) _ _ _ hsrc (by omega) (by omega) (by rw [hby]; simp [Builtin.nextslicecap]; split <;> omega)
    refine ⟨w.heap.size, 0, _, _, by simpa using hrun, ?_, ?_⟩
    · refine ⟨_, _, rfl, ?_, fun _ => ⟨_, _, rfl, fun j hj => ?_⟩⟩
      · have := grownCap_ge w (0 + l.length) 0 e; simpa using this
      · rw [Nat.zero_add]
        have := cell_new w.drew ((([] : List Value) ++ l.map (Value.int .i64)).toArray ++ Builtin.zeroCells z.cells (grownCap w (0 + l.length) 0 e - (0 + l.length))) e j
        rw [show w.drew.heap.size = w.heap.size from rfl] at this
        simp only [List.nil_append, Nat.zero_add] at this
        refine this.trans ?_
        rw [Array.getElem?_append_left (by simpa using hj)]
        simp [hj]
    · exact (Below.refl _ _).drew.alloc (Nat.le_refl _) _

/-- 'append(T{}, l...)' at an operation: a new slice that holds l. -/
theorem wp_append_fresh {P : Program} {o : Oper} {a : Act} {w : World} {K : Act → World → Prop} {Q : Exit → Act → World → Prop} (s x : Operand) (t tx e e' : TypeId)
    (ho : o.op = .call { callee := .builtin .append, args := #[s, x], argTypes := #[t, tx] })
    (i : TypeInfo) (z : Value) (ht : P.underlying t = some (.slice e)) (htx : P.underlying tx = some (.slice e')) (hi : P.info? e = some i) (hz : i.zero = some z) (hs1 : i.size = 1) (hby : i.bytes = 8)
    (g og : Nat) (hs : a.eval s = .slice (some ⟨g, og, none⟩) 0 0) (v : Value) (l : List Int) (hx : a.eval x = v) (hv : Ints w v l) (hl : l.length ≤ 1000000000)
    (h : ∀ b off cap w', Ints w' (.slice (some ⟨b, off, none⟩) l.length cap) l → Below w.heap.size w w' → K (a.put o.dst (.slice (some ⟨b, off, none⟩) l.length cap)) w') : o.wp P a w K Q := by
  obtain ⟨b, off, cap, w', hr, h2, h3⟩ := run_append_fresh (P := P) w t tx o.type e e' i z ht htx hi hz hs1 hby g og v l hv hl
  unfold Oper.wp execOp
  simp only [ho, resolve, invoke, builtin, Sem.run_bind, Sem.run_pure, Result.andThen_ok, List.map_toArray, List.map_cons, List.map_nil, hs, hx, hr]
  exact h b off cap w' h2 h3

theorem wpList_append_fresh {P : Program} {ops : Array Oper} {rest : List Oper} {o : Oper} {a : Act} {w : World} {Q : Exit → Act → World → Prop} (hgd : o.guard = none) (s x : Operand) (t tx e e' : TypeId)
    (ho : o.op = .call { callee := .builtin .append, args := #[s, x], argTypes := #[t, tx] })
    (i : TypeInfo) (z : Value) (ht : P.underlying t = some (.slice e)) (htx : P.underlying tx = some (.slice e')) (hi : P.info? e = some i) (hz : i.zero = some z) (hs1 : i.size = 1) (hby : i.bytes = 8)
    (g og : Nat) (hs : a.eval s = .slice (some ⟨g, og, none⟩) 0 0) (v : Value) (l : List Int) (hx : a.eval x = v) (hv : Ints w v l) (hl : l.length ≤ 1000000000)
    (h : ∀ b off cap w', Ints w' (.slice (some ⟨b, off, none⟩) l.length cap) l → Below w.heap.size w w' → wpList P ops Q rest (a.put o.dst (.slice (some ⟨b, off, none⟩) l.length cap)) w') : wpList P ops Q (o :: rest) a w :=
  wpList_plain hgd fun _ hK => wp_append_fresh s x t tx e e' ho i z ht htx hi hz hs1 hby g og hs v l hx hv hl fun b off cap w' h1 h2 => hK _ _ (h b off cap w' h1 h2)

end Go.Proofs.YtnlmaildmeihgaaGreatDoor

/- 'append' onto an empty slice that stands written out: what is handed back is a new row of the call's own. -/
import Derived.Test.YtnlmaildmeihgaaGreatDoorAppend
namespace Go.Proofs.YtnlmaildmeihgaaGreatDoor
open Go.RowKit

theorem run_append_freshO {P : Program} (w : World) (t tx ty e : TypeId) (i : TypeInfo) (z : Value) (size bytes : Nat) (ht : P.underlying t = some (.slice e)) (hi : P.info? e = some i) (hz : i.zero = some z) (hs1 : i.size = size) (hby : i.bytes = bytes) (hzs : z.cells.size = size)
    (g o : Nat) (v : Value) (n : Nat) (news : List Value) (hsrc : Src P size tx v n news w) (hn : 0 < n) (hm : n ≤ maxLen) (hfit : n * bytes ≤ 281474976710656) :
    ∃ u w', (Builtin.append_ #[t, tx] ty #[.slice (some ⟨g, o, none⟩) 0 0, v]).run P w = .ok u w' ∧ w'.ownsRow w.heap.size e size u n news ∧ Below w.heap.size w w' := by
  subst hs1
  have hm' := hm
  unfold maxLen at hm'
  have hc : Builtin.nextslicecap (0 + n) 0 = n := by rw [Nat.zero_add]; exact nextslicecap_zero hn
  have hrun := run_append_grow_src (P := P) (w := w) t tx ty e i z ht hi hz (some ⟨g, o, none⟩) 0 0 [] (run_firstCells_some w.drew i.size 0 ⟨g, o, none⟩ 0 0 [] (by simp) (by simp)) v n news hsrc (by omega) (by omega) (by rw [hc, hby]; exact hfit)
  refine ⟨_, _, hrun, ⟨hsrc.newsLen, .inr ⟨w.heap.size, _, _, by rw [Nat.zero_add], Nat.le_refl _, heap_alloc_new w.drew _, ?_, grownCap_le_maxLen _ _ _ _ (by omega), ?_, ?_⟩⟩, (Below.refl _ _).drew.alloc (Nat.le_refl _) _⟩
  · have := grownCap_ge w (0 + n) 0 e; simpa using this
  · have := grownCap_ge w (0 + n) 0 e
    simp only [List.nil_append, Array.size_append, List.size_toArray, size_zeroCells, hsrc.newsLen, hzs]
    simp only [Nat.zero_add] at this ⊢
    rw [← Nat.add_mul]; congr 1; omega
  · simp only [List.nil_append, Array.toList_append]
    rw [List.take_append_of_le_length (by rw [hsrc.newsLen]; exact Nat.le_refl _), ← hsrc.newsLen, List.take_length]

theorem wp_append_freshO {P : Program} {o : Oper} {a : Act} {w : World} {K : Act → World → Prop} {Q : Exit → Act → World → Prop} (s x : Operand) (t tx e : TypeId)
    (ho : o.op = .call { callee := .builtin .append, args := #[s, x], argTypes := #[t, tx] })
    (i : TypeInfo) (z : Value) (size bytes : Nat) (ht : P.underlying t = some (.slice e)) (hi : P.info? e = some i) (hz : i.zero = some z) (hs1 : i.size = size) (hby : i.bytes = bytes) (hzs : z.cells.size = size)
    (g og : Nat) (hs : a.eval s = .slice (some ⟨g, og, none⟩) 0 0) (v : Value) (n : Nat) (news : List Value) (hx : a.eval x = v) (hsrc : Src P size tx v n news w) (hn : 0 < n) (hm : n ≤ maxLen) (hfit : n * bytes ≤ 281474976710656)
    (h : ∀ u w', w'.ownsRow w.heap.size e size u n news → Below w.heap.size w w' → K (a.put o.dst u) w') : o.wp P a w K Q := by
  obtain ⟨u, w', hr, h2, h3⟩ := run_append_freshO (P := P) w t tx o.type e i z size bytes ht hi hz hs1 hby hzs g og v n news hsrc hn hm hfit
  unfold Oper.wp execOp
  simp only [ho, resolve, invoke, builtin, Sem.run_bind, Sem.run_pure, Result.andThen_ok, List.map_toArray, List.map_cons, List.map_nil, hs, hx, hr]
  exact h u w' h2 h3

theorem wpList_append_freshO {P : Program} {ops : Array Oper} {rest : List Oper} {o : Oper} {a : Act} {w : World} {Q : Exit → Act → World → Prop} (hgd : o.guard = none) (s x : Operand) (t tx e : TypeId)
    (ho : o.op = .call { callee := .builtin .append, args := #[s, x], argTypes := #[t, tx] })
    (i : TypeInfo) (z : Value) (size bytes : Nat) (ht : P.underlying t = some (.slice e)) (hi : P.info? e = some i) (hz : i.zero = some z) (hs1 : i.size = size) (hby : i.bytes = bytes) (hzs : z.cells.size = size)
    (g og : Nat) (hs : a.eval s = .slice (some ⟨g, og, none⟩) 0 0) (v : Value) (n : Nat) (news : List Value) (hx : a.eval x = v) (hsrc : Src P size tx v n news w) (hn : 0 < n) (hm : n ≤ maxLen) (hfit : n * bytes ≤ 281474976710656)
    (h : ∀ u w', w'.ownsRow w.heap.size e size u n news → Below w.heap.size w w' → wpList P ops Q rest (a.put o.dst u) w') : wpList P ops Q (o :: rest) a w :=
  wpList_plain hgd fun _ hK => wp_append_freshO s x t tx e ho i z size bytes ht hi hz hs1 hby hzs g og hs v n news hx hsrc hn hm hfit fun u w' h1 h2 => hK _ _ (h u w' h1 h2)

/-- from an empty source: the empty slice itself. -/
theorem run_append_empty {P : Program} (w : World) (t tx ty e e' : TypeId) (i : TypeInfo) (z : Value) (ht : P.underlying t = some (.slice e)) (htx : P.underlying tx = some (.slice e')) (hi : P.info? e = some i) (_hz : i.zero = some z) (g o : Nat) (x : Option Addr) (c : Nat) :
    (Builtin.append_ #[t, tx] ty #[.slice (some ⟨g, o, none⟩) 0 0, .slice x 0 c]).run P w = .ok (.slice (some ⟨g, o, none⟩) 0 0) w := by
  have hf : ∀ (x : Value), (∃ a c, x = .slice a 0 c) → (Builtin.firstCells i.size 0 x).run P w = .ok #[] w := fun x ⟨a, c, hx⟩ => by
    subst hx
    cases a with
    | none => exact run_firstCells_none w i.size 0 0 c
    | some a => exact run_firstCells_some w i.size 0 a 0 c [] (by simp) (by simp)
  simp [Builtin.append_, run_underlying ht, run_underlying htx, sizeOf, typeInfo, hi, Builtin.lenOf, hf _ ⟨x, c, rfl⟩, storeCells]

/-- a slice that holds l, as a source of an append. -/
theorem Ints.src {P : Program} {w : World} {v : Value} {l : List Int} (h : Ints w v l) {tx e : TypeId} (hk : P.underlying tx = some (.slice e)) (h0 : 0 < l.length) : Src P 1 tx v l.length (l.map (Value.int .i64)) w := by
  obtain ⟨a, cap, rfl, _, hc⟩ := h
  obtain ⟨b, off, rfl, hcs⟩ := hc h0
  refine Src.ofSlice w hk _ _ _ _ (by simp) (fun j u hj => ?_) (by intro u hu; simp at hu; obtain ⟨x, _, rfl⟩ := hu; rfl)
  rw [List.getElem?_map] at hj
  cases hq : l[j]? with
  | none => rw [hq] at hj; simp at hj
  | some x =>
    rw [hq] at hj
    rw [addr_add, hcs j (List.getElem?_eq_some_iff.1 hq).1, hq]; simpa using hj

/-- v is a row of the call's own (from block base on) that holds l. -/
def OwnI (e : TypeId) (base : Nat) (w : World) (v : Value) (l : List Int) : Prop := w.ownsRow base e 1 v l.length (l.map (Value.int .i64))
theorem OwnI.ints {e base : Nat} {w : World} {v : Value} {l : List Int} (h : OwnI e base w v l) : Ints w v l := Ints.of_own h rfl
theorem OwnI.carry {e base : Nat} {w w' : World} {v : Value} {l : List Int} (h : OwnI e base w v l) (hb : Below w.heap.size w w') : OwnI e base w' v l := own_below h hb
theorem OwnI.base {e base b : Nat} {w : World} {v : Value} {l : List Int} (h : OwnI e base w v l) (hb : b ≤ base) : OwnI e b w v l := by
  obtain ⟨h1, h2⟩ := h
  refine ⟨h1, ?_⟩
  rcases h2 with h2 | ⟨g, cap, cur, hv, hg, r⟩
  · exact .inl h2
  · exact .inr ⟨g, cap, cur, hv, by omega, r⟩
theorem OwnI.new (w : World) (e : TypeId) (l : List Int) (n : Nat) (hn : n = l.length) (hm : l.length ≤ maxLen) : OwnI e w.heap.size (w.alloc (.cells (ia l) e)) (.slice (some ⟨w.heap.size, 0, none⟩) n n) l := by
  subst hn
  exact ⟨by simp, .inr ⟨_, _, _, rfl, Nat.le_refl _, heap_alloc_new w _, Nat.le_refl _, hm, by simp [ia], by simp [ia]; exact List.take_of_length_le (by simp)⟩⟩

end Go.Proofs.YtnlmaildmeihgaaGreatDoor

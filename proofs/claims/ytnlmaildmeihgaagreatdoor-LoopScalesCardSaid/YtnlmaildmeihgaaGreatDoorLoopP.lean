/- The table of a polynomial. -/
import Derived.Test.YtnlmaildmeihgaaGreatDoorVals
namespace Go.Proofs.YtnlmaildmeihgaaGreatDoor
open Go.RowKit Go.Shelf

attribute [local go_sem] Oper.semAt_some

set_option maxHeartbeats 400000 in
theorem rows_any (a : Option Addr) (n c : Nat) (w : World) :
    Calls Tryz.prog 154 #[.slice a n c] w fun e w' => e = .returned (.func (.func 173) #[] #[.pointer (some ⟨w.heap.size, 0, none⟩)]) ∧ w.alloc (.cells #[.slice a n c] 26) = w' := by
  go_enter Tryz.func154, Tryz.ntmps154
  go_wp2
  go_ret
  exact ⟨rfl, rfl⟩

theorem rows_seq (n : Nat) (hn : 1 ≤ n) (Bs : Nat) (v : Value) (p : List Int) (hl : p.length ≤ 1000000000) (w : World) (hBs : w.cell? ⟨Bs, 0, none⟩ = some v) (hv : Ints w v p) :
    SeqX Fence.wide n Tryz.prog 173 #[.pointer (some ⟨Bs, 0, none⟩)] (fun x : Value × List Int => #[x.1]) (fun pre x W => OwnI 3 0 W x.1 x.2 ∧ pre.length < p.length) KInt (fun xs => xs.map Prod.snd = tableW p) (fun _ => True) false w :=
  fun l J Jx W hW hJ _ hY h00 => (rows1_in n hn l Bs v p hl J Jx (fun pre A B h hg => hJ pre A B none h hg (fun r e => by cases e)) hY W (cellb hBs hW) (hv.carry hW) h00).mono fun _ _ ⟨hv, h⟩ => ⟨hv, h.imp (fun ⟨ys, a, b⟩ => ⟨ys, a, b⟩) (fun ⟨pre, h⟩ => ⟨pre, trivial, h⟩)⟩

theorem kint_of_grown {A B : World} {row : Option Nat} (hg : A.grownBy B row) (hr : ∀ r, row = some r → ∃ o : Obj, A.heap[r]? = some o ∧ o.isCells = false) : KInt A B := fun b c hc => by
  refine (hg.block b (Array.getElem?_eq_some_iff.1 hc).1 (fun e => ?_)).trans hc
  obtain ⟨o, ho, h1⟩ := hr b e.symm
  rw [hc] at ho; cases ho; cases h1
theorem ownI_own {α : Type} (f : α → List (Value × List Int)) : Own (fun (s : α) W => ∀ x ∈ f s, OwnI 3 0 W x.1 x.2) := fun _ _ _ _ hs hg hr x hx => (hs x hx).kint (kint_of_grown hg hr)
theorem KInt.below {A B : World} (h : Below A.heap.size A B) : KInt A B := fun b _ hc => (h.block b (Array.getElem?_eq_some_iff.1 hc).1).trans hc
theorem KInt.set {A B : World} {b o : Nat} {T : TypeId} {c : Array Value} (h : KInt A B) (hb : B.heap[b]? = some (.cells c T (0, 0))) (hT : T ≠ 3) (v : Value) : KInt A (B.setCell ⟨b, o, none⟩ v) := fun b' c' hc => by
  refine (Below.heap_setCell _ _ _ _ ?_).trans (h b' c' hc)
  rintro rfl
  have := (h _ c' hc).symm.trans hb
  simp at this
  exact hT this.2.symm
theorem kint_append {A B : World} {base e n : Nat} {v : Value} {xs : List Value} {o : Obj} (h : A.ownsRow base e 1 v n xs) (he : e ≠ 3) (hg : (A.alloc o).grownBy B v.ownBlock) : KInt A B := fun b c hc => by
  have hc' : (A.alloc o).heap[b]? = some (.cells c 3 (0, 0)) := ((Below.refl A.heap.size A).alloc (Nat.le_refl _) o).block b (Array.getElem?_eq_some_iff.1 hc).1 |>.trans hc
  refine (hg.block b (Array.getElem?_eq_some_iff.1 hc').1 (fun e' => ?_)).trans hc'
  rcases h.2 with ⟨rfl, _⟩ | ⟨g, cap, cur, rfl, _, hgb, _⟩
  · simp [Value.ownBlock] at e'
  · obtain rfl : b = g := by simpa [Value.ownBlock] using e'
    have := hc.symm.trans hgb
    simp at this
    exact he this.2.symm

theorem Tryz.infoRow : (Tryz.prog.info? 181).map (fun i => (i.zero, i.size, i.bytes)) = some (some (.slice none 0 0), 1, 24) := by kernel_rfl

theorem tableL_length (f : Nat) (r : List Int) : (tableL f r).length ≤ f := by
  induction f generalizing r with
  | zero => simp [tableL]
  | succ f ih => unfold tableL; split; · simp
                 split; · simp
                 have := ih (nextL r); simp; omega

set_option maxRecDepth 100000 in
set_option maxHeartbeats 2000000 in
theorem table_any (v : Value) (p : List Int) (w : World) (hv : Ints w v p) (hl : p.length ≤ 1000000) :
    Calls Tryz.prog 124 #[v] w fun e w' => (∃ u, e = .returned u ∧ RowsOf w' u (tableW p)) ∧ Below w.heap.size w w' := by
  refine (callsIn_wide (n := 5)).1 ?_
  have hv' := hv
  obtain ⟨a, cap, rfl, hcap, _⟩ := hv'
  have hwf : ∀ f, Fence.wide.fn f := fun _ => trivial
  obtain ⟨i0, hi, hz0, hz1, hz2⟩ := info_parts Tryz.infoRow
  refine callsIn_of_wp_marks Tryz.func124 rfl trivial ?_ rfl
  simp only [Tryz.ntmps124, List.size_toArray, List.length_cons, List.length_nil, Nat.reduceAdd, Nat.reduceSub, Array.replicate_succ, Array.replicate_zero, List.push_toArray, List.append_toArray, List.nil_append, List.cons_append]
  gi_wp2_with (gi_at_call 154; refine ((callsIn_wide (n := 4)).2 (rows_any _ _ _ _)).mono ?_; rintro e w' ⟨rfl, rfl⟩)
  obtain ⟨w1, hw1⟩ : ∃ w1, w1 = w.alloc (Obj.cells #[Value.slice none 0 0] 122) := ⟨_, rfl⟩
  have b1 := below_new w (Obj.cells #[Value.slice none 0 0] 122)
  have x1 := Boxed.new w 122 (Value.slice none 0 0)
  have s1 : w1.heap.size = w.heap.size + 1 := by rw [hw1]; simp
  rw [← hw1] at b1 x1 ⊢
  obtain ⟨W0, hW0⟩ : ∃ W0, W0 = w1.alloc (Obj.cells #[Value.slice a p.length cap] 26) := ⟨_, rfl⟩
  have x2 := x1.alloc (Obj.cells #[Value.slice a p.length cap] 26)
  have c2 := cell_new w1 #[Value.slice a p.length cap] 26 0
  have b2 := bthen b1 (below_new w1 (Obj.cells #[Value.slice a p.length cap] 26))
  rw [← hW0] at b2 x2 c2 ⊢
  rw [s1] at c2
  have s2 : W0.heap.size = w.heap.size + 2 := by rw [hW0]; simp [s1]
  clear hW0 hw1 b1 x1 s1
  refine wpIn_rangeX rfl (by omega) (gf := 173) (lb := #[.pointer (some ⟨w.heap.size + 1, 0, none⟩)]) rfl trivial (enters_of Tryz.func173 (by kernel_rfl) rfl)
    (rows_seq 4 (by omega) (w.heap.size + 1) _ p (by omega) W0 c2 (hv.carry b2)) KInt.trans (fun W l o o' _ h h1 _ => KInt.turn W l o o' h h1) (Below.refl _ _) (fun _ => rfl)
    (fun pre W => ((∃ v, Boxed W w.heap.size 122 v ∧ W.ownsRow w.heap.size 181 1 v pre.length (pre.map Prod.fst) ∧ True) ∧ (∀ x ∈ pre, OwnI 3 0 W x.1 x.2)) ∧ Below w.heap.size w W)
    (fun _ _ _ => False)
    (OwnFrom.and (OwnFrom.and (Own.from (holdsRow_own w.heap.size w.heap.size 122 181 1 (fun pre : List (Value × List Int) => pre.length) (fun pre => pre.map Prod.fst) (fun _ _ => True)) _) (Own.from (ownI_own (fun pre => pre)) _)) (ownFrom_below (Nat.le_refl _) (by omega)))
    (fun _ _ _ _ _ hs _ _ => hs)
    ⟨⟨⟨_, x2, ⟨rfl, .inl ⟨rfl, rfl⟩⟩, trivial⟩, fun x hx => by simp at hx⟩, b2⟩ (fun h => by cases h)
    (fun pre x a' W => a' = { tmps := #[Value.slice a p.length cap, undef, Value.slice none 0 0, Value.pointer (some { block := w.heap.size, off := 0 }), x.1, Value.slice a p.length cap, Value.func (Fn.func 173) #[] #[Value.pointer (some { block := w.heap.size + 1, off := 0 })], x.1, undef, undef, undef, undef, undef], defers := [] } ∧ OwnI 3 0 W x.1 x.2 ∧ pre.length < p.length)
    (fun _ x a' _ A B row hs hg hr => ⟨hs.1, hs.2.1.kint (kint_of_grown hg (fun r e => (hr r e).2)), hs.2.2⟩)
    ?assign ?body ?done ?stop
  case assign =>
    intro l pre x W K hI hx hK
    gi_wp2
    exact hK _ _ (KeepsFrom.refl _ _) (fun b c h => h) hI ⟨rfl, hx⟩
  case body =>
    rintro l pre ⟨xv, xl⟩ a' W ⟨⟨⟨ov, hbx, hown, _⟩, hall⟩, hB⟩ ⟨rfl, hx, hlen⟩
    obtain ⟨xa, xc, hxv, _⟩ := hx.ints
    simp only at hxv hx
    subst hxv
    have c0 := hbx.cell
    have hn : w.heap.size ≤ W.heap.size := hB.size
    gi_wp2_with (gi_at_builtin; refine wpListIn_append_own _ rfl (.tmp 8) (.tmp 10) 122 rfl w.heap.size 181 i0 (.slice none 0 0) 1 24 Tryz.underlying122 hi hz0 hz1 hz2 rfl (by decide) _ _ _ rfl (hown.alloc _) ⟨W.heap.size, 0, none⟩ 1 1 [.slice xa xl.length xc] rfl rfl (cell_one_new _ _ _) (by simp [Value.oneCell']) (by unfold maxLen; omega) (by omega) (by simp; omega) ?_; intro v' w5 hown5 hgrow5 _; obtain ⟨g, gc, rfl⟩ := ownsRow_succ hown5; obtain ⟨k1, k2, k3, k4, k5⟩ := hbx.appended (by decide) hown hn (Nat.le_refl _) hown5 hgrow5; have hk := kint_append hown (by decide) hgrow5; have c1 := k1.cell; have f1 := k1.frozen; clear c0)
    have hk2 := hk.set (o := 0) k1 (by decide) (.slice (some ⟨g, 0, none⟩) (pre.length + 1) gc)
    refine ⟨k4.from _, hk2, ⟨⟨_, k2, by simpa using k3⟩, ?_⟩, hB.trans k5⟩
    intro yv yl hy
    rcases List.mem_append.1 hy with hy | hy
    · exact (hall _ hy).kint hk2
    · obtain ⟨rfl, rfl⟩ := Prod.mk.inj (List.mem_singleton.1 hy)
      exact hx.kint hk2
  case done =>
    rintro D ys W hD hS ⟨⟨⟨ov, hbx, hown, _⟩, hall⟩, hB⟩ hK
    have c0 := hbx.cell
    have hR : RowsOf W ov (tableW p) := ⟨ys.map Prod.fst, Vals.of_own (by rw [List.length_map]; exact hown), by rw [← hS]; simp, fun j u l hu hl => by
      rw [← hS] at hl
      rw [List.getElem?_map] at hu hl
      cases hq : ys[j]? with
      | none => rw [hq] at hu; cases hu
      | some y =>
        rw [hq] at hu hl
        cases hu; cases hl
        exact (hall y (List.mem_of_getElem? hq)).ints⟩
    gi_wp2
    refine ⟨by simp, .inl ⟨_, _, rfl, run_takeDeferred hK, ?_⟩⟩
    exact ⟨ov, by simp [results, Tryz.f124, go_sem], ⟨_, rfl, hR.kept (grownBy_putObj' _ D (.deferred none)) (fun r e => by cases e; exact ⟨_, hK, rfl⟩)⟩, hB.trans (belowK_b (w := w) (Nat.le_refl _) _ D _ _ (by omega) hK rfl rfl)⟩
  case stop =>
    rintro D c pre W _ _ h _
    exact h.elim

end Go.Proofs.YtnlmaildmeihgaaGreatDoor

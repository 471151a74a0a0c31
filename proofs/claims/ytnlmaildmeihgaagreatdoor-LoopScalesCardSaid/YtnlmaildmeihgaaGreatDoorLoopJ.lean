import Derived.Test.YtnlmaildmeihgaaGreatDoorLoopI
import Derived.Test.YtnlmaildmeihgaaGreatDoorBox
namespace Go.Proofs.YtnlmaildmeihgaaGreatDoor
open Go.RowKit Go.Shelf

attribute [local go_sem] Oper.semAt_some

def atStep (zr zi : Int) (o x : Int × Int) : Int × Int := (wrap64 (wrap64 (wrap64 (o.1 * zr) - wrap64 (o.2 * zi)) + x.2), wrap64 (wrap64 (o.1 * zi) + wrap64 (o.2 * zr)))
def atW (p : List Int) (zr zi : Int) : Int × Int := (upto (bwd p) p.length).foldl (atStep zr zi) (0, 0)
theorem atStep_snoc (zr zi : Int) (pre : List (Int × Int)) (x : Int × Int) : (pre ++ [x]).foldl (atStep zr zi) (0, 0) = atStep zr zi (pre.foldl (atStep zr zi) (0, 0)) x := by simp

set_option maxRecDepth 100000 in
set_option maxHeartbeats 2000000 in
theorem at_in (F : Fence) (n : Nat) (hf : F.fn 104) (hf2 : F.fn 147) (hf3 : F.fn 172) (hro : F.round = none) (hn : 3 ≤ n) (v : Value) (p : List Int) (zr zi : Int) (w : World) (hp : Ints w v p) (hl : p.length ≤ 1000000000) :
    CallsIn F n Tryz.prog 104 #[v, .agg #[.int .i64 zr, .int .i64 zi]] w fun e W' => e = .returned (.agg #[.int .i64 (atW p zr zi).1, .int .i64 (atW p zr zi).2]) ∧ Below w.heap.size w W' := by
  have h1 : 1 ≤ n := by omega
  have hp' := hp
  obtain ⟨a, cap, rfl, hcap, _⟩ := hp'
  refine callsIn_of_wp_marks Tryz.func104 rfl hf ?_ hro
  simp only [Tryz.ntmps104, List.size_toArray, List.length_cons, List.length_nil, Nat.reduceAdd, Nat.reduceSub, Array.replicate_succ, Array.replicate_zero, List.push_toArray, List.append_toArray, List.nil_append, List.cons_append]
  gi_wp2_with (gi_at_call 147; refine (backward_in F (n - 1) hf2 hro _ _ _ _).mono ?_; rintro e w' ⟨rfl, rfl⟩)
  obtain ⟨w1, hw1⟩ : ∃ w1, w1 = w.alloc (Obj.cells #[Value.int IntKind.i64 zr, Value.int IntKind.i64 zi] 59) := ⟨_, rfl⟩
  have z := Box2.new w 59 (.int .i64 zr) (.int .i64 zi)
  have b1 := below_new w (Obj.cells #[Value.int IntKind.i64 zr, Value.int IntKind.i64 zi] 59)
  have s1 : w1.heap.size = w.heap.size + 1 := by rw [hw1]; simp
  rw [← hw1] at z b1 ⊢
  obtain ⟨w2, hw2⟩ : ∃ w2, w2 = w1.alloc (Obj.cells #[Value.int IntKind.i64 0, Value.int IntKind.i64 0] 59) := ⟨_, rfl⟩
  have r := Box2.new w1 59 (.int .i64 0) (.int .i64 0)
  have z := z.alloc (Obj.cells #[Value.int IntKind.i64 0, Value.int IntKind.i64 0] 59)
  have b2 := bthen b1 (below_new w1 (Obj.cells #[Value.int IntKind.i64 0, Value.int IntKind.i64 0] 59))
  have s2 : w2.heap.size = w.heap.size + 1 + 1 := by rw [hw2]; simp [s1]
  rw [← hw2] at z r b2 ⊢
  obtain ⟨w3, hw3⟩ : ∃ w3, w3 = w2.alloc (Obj.cells #[Value.int IntKind.i64 0, Value.int IntKind.i64 0] 59) := ⟨_, rfl⟩
  have o := Box2.new w2 59 (.int .i64 0) (.int .i64 0)
  have z := z.alloc (Obj.cells #[Value.int IntKind.i64 0, Value.int IntKind.i64 0] 59)
  have r := r.alloc (Obj.cells #[Value.int IntKind.i64 0, Value.int IntKind.i64 0] 59)
  have b3 := bthen b2 (below_new w2 (Obj.cells #[Value.int IntKind.i64 0, Value.int IntKind.i64 0] 59))
  have s3 : w3.heap.size = w.heap.size + 1 + 1 + 1 := by rw [hw3]; simp [s2]
  rw [← hw3] at z r o b3 ⊢
  obtain ⟨W0, hW0⟩ : ∃ W0, W0 = w3.alloc (Obj.cells #[Value.slice a p.length cap] 26) := ⟨_, rfl⟩
  have c4 := cell_new w3 #[Value.slice a p.length cap] 26 0
  have z := z.alloc (Obj.cells #[Value.slice a p.length cap] 26)
  have r := r.alloc (Obj.cells #[Value.slice a p.length cap] 26)
  have o := o.alloc (Obj.cells #[Value.slice a p.length cap] 26)
  have hB0 := bthen b3 (below_new w3 (Obj.cells #[Value.slice a p.length cap] 26))
  have s4 : W0.heap.size = w.heap.size + 4 := by rw [hW0]; simp [s3]
  rw [← hW0] at z r o c4 hB0 ⊢
  clear hW0 hw1 hw2 hw3 b1 b2 b3
  rw [s1] at r
  rw [s2] at o
  rw [s3] at c4
  clear s1 s2 s3
  refine wpIn_rangeFunc_ownG hro h1 (gf := 172) (lb := #[.pointer (some ⟨w.heap.size + 1 + 1 + 1, 0, none⟩)]) rfl hf3 (enters_of Tryz.func172 (by kernel_rfl) rfl)
    (backward_stops F (n - 1) hf3 hro (by omega) (w.heap.size + 1 + 1 + 1) (w.heap.size + 1 + 1) _ p hl W0 (by omega) (by omega) c4 w (by omega) hp hB0) keepB_t (keepB_b (by omega) (by omega)) (Below.refl _ _) (fun _ => rfl)
    (fun pre W => (Box2 W w.heap.size (.int .i64 zr) (.int .i64 zi) ∧ Box2 W (w.heap.size + 1) (.int .i64 0) (.int .i64 0) ∧ Box2 W (w.heap.size + 1 + 1) (.int .i64 (pre.foldl (atStep zr zi) (0, 0)).1) (.int .i64 (pre.foldl (atStep zr zi) (0, 0)).2)) ∧ Below w.heap.size w W)
    (fun _ _ _ => False)
    (OwnFrom.and (Own.from (fun s A B row hs hg hr => ⟨hs.1.kept hg hr, hs.2.1.kept hg hr, hs.2.2.kept hg hr⟩) _) (ownFrom_below (Nat.le_refl _) (by omega)))
    (fun _ _ _ _ _ hs _ _ => hs)
    ⟨⟨z, r, o⟩, hB0⟩
    (fun x => { tmps := #[Value.slice a p.length cap, Value.agg #[Value.int IntKind.i64 zr, Value.int IntKind.i64 zi], undef, Value.pointer (some { block := w.heap.size, off := 0 }), Value.pointer (some { block := w.heap.size + 1, off := 0 }), Value.pointer (some { block := w.heap.size + 1 + 1, off := 0 }), undef, .int .i64 x.2, Value.slice a p.length cap, Value.func (Fn.func 172) #[] #[Value.pointer (some { block := w.heap.size + 1 + 1 + 1, off := 0 })], .int .i64 x.1, .int .i64 x.2, undef, undef, undef, undef, undef, undef, undef, undef, undef, undef, undef, undef, undef, undef, undef, undef, undef, undef, undef, undef, undef, undef, undef, undef, undef, undef], defers := [] }) ?assign ?body ?done ?stop
  case assign =>
    intro l x W K hK
    gi_wp2
    exact hK
  case body =>
    rintro l pre x W ⟨⟨z, r, o⟩, hB⟩ _
    have z' := z
    have o' := o
    obtain ⟨z0, z1, _, _⟩ := z
    obtain ⟨o0, o1, g0, g1⟩ := o
    gi_wp2
    refine ⟨((KeepsOthers.setCell _ _ _).trans (KeepsOthers.setCell _ _ _)).from _, ((KeepB.refl _ _ _).setCell (by exact Nat.le_refl _) (by simp) _).setCell (by exact Nat.le_refl _) (by simp) _, ⟨?_, ?_, ?_⟩, (hB.setCell (by simp; omega) _).setCell (by simp; omega) _⟩
    · exact (z'.other (by simp; omega) _).other (by simp; omega) _
    · exact (r.other (by simp) _).other (by simp) _
    · rw [atStep_snoc]; exact o'.set _ _
  case done =>
    rintro D ys W hD rfl ⟨⟨z, r, o⟩, hB⟩ hK
    have r' := r
    have hx : (upto (bwd p) p.length).foldl (atStep zr zi) (0, 0) = atW p zr zi := rfl
    rw [hx] at o
    clear hx
    obtain ⟨o0, o1, _, _⟩ := o
    obtain ⟨r0, r1, g0, g1⟩ := r
    gi_wp2
    have hK' := (KeepsOthers.setCell (W.setCell ⟨w.heap.size + 1, 0, none⟩ (.int .i64 (atW p zr zi).1)) ⟨w.heap.size + 1, 1, none⟩ (.int .i64 (atW p zr zi).2)).same D _ ((KeepsOthers.setCell W ⟨w.heap.size + 1, 0, none⟩ (.int .i64 (atW p zr zi).1)).same D _ hK rfl) rfl
    have rr := (r'.set (.int .i64 (atW p zr zi).1) (.int .i64 (atW p zr zi).2)).kept (grownBy_putObj' _ D (.deferred none)) (fun r e => by cases e; exact ⟨_, hK', rfl⟩)
    refine ⟨by simp, .inl ⟨_, _, rfl, run_takeDeferred hK', ?_⟩⟩
    refine ⟨.agg #[.int .i64 (atW p zr zi).1, .int .i64 (atW p zr zi).2], ?_, rfl, ((hB.setCell (by simp) _).setCell (by simp) _).trans (belowK_b (w := w) (Nat.le_refl _) _ D _ _ (by omega) hK' rfl rfl)⟩
    simp [results, Tryz.f104, go_sem, rr.c0, rr.c1]
  case stop =>
    rintro D c pre W _ _ h _
    exact h.elim

theorem at_any (v : Value) (p : List Int) (zr zi : Int) (w : World) (hp : Ints w v p) (hl : p.length ≤ 1000000000) :
    Calls Tryz.prog 104 #[v, .agg #[.int .i64 zr, .int .i64 zi]] w fun e W' => e = .returned (.agg #[.int .i64 (atW p zr zi).1, .int .i64 (atW p zr zi).2]) ∧ Below w.heap.size w W' :=
  callsIn_wide.1 (at_in Fence.wide 3 trivial trivial trivial rfl (by omega) v p zr zi w hp hl)

end Go.Proofs.YtnlmaildmeihgaaGreatDoor

/- Words on boxes: cells of one block that the call itself has laid. -/
import Derived.Test.YtfdehcphmmhjaaaGreatDoorLib
import Derived.RangeFuncBox
import Derived.RangeFuncNested
import Derived.RangeFuncBound
import Derived.RangeFuncCalls
import Derived.RangeFuncLeaves
import Derived.Shelf.Abstract
import Derived.Shelf.RegionOpen
import Derived.OwnWalkIn
import Derived.TacticsInMore
import Derived.LoopNIn
import Derived.LoopIn
import Derived.Test.YtfdehcphmmhjaaaGreatDoorLoopH
namespace Go.Proofs.YtfdehcphmmhjaaaGreatDoor
open Go.RowKit

/-- two cells of one block read so, and may be written. -/
structure Box2 (w : World) (B : Nat) (a b : Value) : Prop where
  c0 : w.cell? ⟨B, 0, none⟩ = some a
  c1 : w.cell? ⟨B, 1, none⟩ = some b
  f0 : w.frozen? ⟨B, 0, none⟩ = false
  f1 : w.frozen? ⟨B, 1, none⟩ = false
theorem Box2.new (w : World) (T : TypeId) (a b : Value) : Box2 (w.alloc (.cells #[a, b] T)) w.heap.size a b := ⟨cell_new _ _ _ _, cell_new _ _ _ _, frozen_new _ _ _ _, frozen_new _ _ _ _⟩
theorem Box2.lt {w : World} {B : Nat} {a b : Value} (h : Box2 w B a b) : B < w.heap.size := lt_of_cellSome h.c0
theorem Box2.below {w w' : World} {B n : Nat} {a b : Value} (h : Box2 w B a b) (hb : Below n w w') (hn : B < n) : Box2 w' B a b :=
  ⟨(hb.cell (p := ⟨B, 0, none⟩) hn).trans h.c0, (hb.cell (p := ⟨B, 1, none⟩) hn).trans h.c1, (hb.frozen (p := ⟨B, 0, none⟩) hn).trans h.f0, (hb.frozen (p := ⟨B, 1, none⟩) hn).trans h.f1⟩
theorem Box2.alloc {w : World} {B : Nat} {a b : Value} (h : Box2 w B a b) (o : Obj) : Box2 (w.alloc o) B a b := h.below ((Below.refl _ _).alloc (Nat.le_refl _) _) h.lt
theorem Box2.kept {A B : World} {k : Nat} {a b : Value} {row : Option Nat} (h : Box2 A k a b) (hg : A.grownBy B row) (hr : ∀ r, row = some r → ∃ o : Obj, A.heap[r]? = some o ∧ o.isCells = false) : Box2 B k a b :=
  ⟨cell_kept h.c0 hg hr, cell_kept h.c1 hg hr, (frozen_kept h.c0 hg hr).trans h.f0, (frozen_kept h.c1 hg hr).trans h.f1⟩
theorem Box2.set {w : World} {B : Nat} {a b : Value} (h : Box2 w B a b) (a' b' : Value) : Box2 ((w.setCell ⟨B, 0, none⟩ a').setCell ⟨B, 1, none⟩ b') B a' b' := by
  refine ⟨?_, ?_, ?_, ?_⟩
  · rw [World.cell?_setCell_other _ _ _ _ (by simp)]; exact World.cell?_setCell_same' _ _ _ (by rw [h.c0]; rfl)
  · exact World.cell?_setCell_same' _ _ _ (by rw [World.cell?_setCell_other _ _ _ _ (by simp), h.c1]; rfl)
  · rw [World.frozen?_setCell, World.frozen?_setCell]; exact h.f0
  · rw [World.frozen?_setCell, World.frozen?_setCell]; exact h.f1
theorem Box2.other {w : World} {B : Nat} {a b : Value} (h : Box2 w B a b) {p : Addr} (hp : B ≠ p.block) (u : Value) : Box2 (w.setCell p u) B a b :=
  ⟨(World.cell?_of_block (a := ⟨B, 0, none⟩) (Below.heap_setCell _ _ _ _ hp)).trans h.c0, (World.cell?_of_block (a := ⟨B, 1, none⟩) (Below.heap_setCell _ _ _ _ hp)).trans h.c1, (World.frozen?_of_block (a := ⟨B, 0, none⟩) (Below.heap_setCell _ _ _ _ hp)).trans h.f0, (World.frozen?_of_block (a := ⟨B, 1, none⟩) (Below.heap_setCell _ _ _ _ hp)).trans h.f1⟩

section
open Go.RowKit Go.Shelf

attribute [local go_sem] Oper.semAt_some

theorem below_new (w : World) (o : Obj) : Below w.heap.size w (w.alloc o) := (Below.refl _ _).alloc (Nat.le_refl _) _

/-- what has come when k rounds are over: f 0, .., f (k - 1). -/
def upto {α : Type} (f : Nat → α) (k : Nat) : List α := (List.range k).map f
theorem upto_succ {α : Type} (f : Nat → α) (k : Nat) : upto f (k + 1) = upto f k ++ [f k] := by simp [upto, List.range_succ]
theorem upto_length {α : Type} (f : Nat → α) (k : Nat) : (upto f k).length = k := by simp [upto]
theorem upto_prefix {α : Type} (f : Nat → α) {k n : Nat} (h : k ≤ n) : upto f k <+: upto f n := by
  refine ⟨(List.range' k (n - k)).map f, ?_⟩
  unfold upto
  rw [← List.map_append]
  congr 1
  rw [List.range_eq_range', List.range_eq_range', show n = k + (n - k) from by omega, ← List.range'_append_1]
  simp

/-- what a round keeps: what lay below n₀, and block Bs (in which the iterator keeps its slice). -/
def KeepB (n₀ Bs : Nat) (A B : World) : Prop := Below n₀ A B ∧ B.heap[Bs]? = A.heap[Bs]?
theorem keepB_t {n₀ Bs : Nat} {A B C : World} (h : KeepB n₀ Bs A B) (k : KeepB n₀ Bs B C) : KeepB n₀ Bs A C := ⟨h.1.trans k.1, k.2.trans h.2⟩
theorem keepB_b {n₀ Bs : Nat} {w : World} (hn : n₀ ≤ w.heap.size) (hB : Bs < w.heap.size) (W : World) (l : Nat) (o o' : Obj) (hl : w.heap.size ≤ l) (h : W.heap[l]? = some o) (h1 : o.isCells = false) (h2 : o.isWalk = false) : KeepB n₀ Bs W (W.putObj l o') :=
  ⟨belowK_b hn W l o o' hl h h1 h2, World.putObj_heap_other (by omega)⟩
theorem KeepB.refl (n₀ Bs : Nat) (w : World) : KeepB n₀ Bs w w := ⟨Below.refl _ _, rfl⟩
theorem KeepB.setCell {n₀ Bs : Nat} {A B : World} (h : KeepB n₀ Bs A B) {p : Addr} (hp : n₀ ≤ p.block) (hb : Bs ≠ p.block) (u : Value) : KeepB n₀ Bs A (B.setCell p u) :=
  ⟨h.1.setCell hp u, (Below.heap_setCell _ _ _ _ hb).trans h.2⟩

/-- the pairs that slices.Backward gives. -/
def bwd (l : List Int) (j : Nat) : Int × Int := ((l.length : Int) - 1 - j, l[l.length - 1 - j]?.getD 0)

set_option maxRecDepth 100000 in
set_option maxHeartbeats 2000000 in
theorem backward1_in (F : Fence) (n : Nat) (hf : F.fn 126) (hro : F.round = none) (hn : 1 ≤ n) (l Bs n₀ b off cap : Nat) (zs : List Int) (hreach : zs.length ≤ 1000000000) (hb : b < n₀) (J Jx : List (Int × Int) → World → Prop)
    (hY : ∀ pre x W, J pre W → pre.length < zs.length → YieldAt F (n - 1) Tryz.prog l #[.int .i64 x.1, .int .i64 x.2] W fun e W' =>
      (e = .returned (.bool true) ∧ J (pre ++ [x]) W' ∧ KeepB n₀ Bs W W') ∨ (e = .returned (.bool false) ∧ Jx (pre ++ [x]) W'))
    (W : World) (hBs : W.cell? ⟨Bs, 0, none⟩ = some (.slice (some ⟨b, off, none⟩) zs.length cap)) (hc : ∀ j, j < zs.length → W.cell? ⟨b, off + j, none⟩ = some (.int .i64 (zs[j]?.getD 0))) (h0 : J [] W) :
    CallsIn F n Tryz.prog 126 #[.func (.yield l) #[] #[], .pointer (some ⟨Bs, 0, none⟩)] W fun e W' => (∃ v, e = .returned v) ∧
      ((∃ ys, ys = upto (bwd zs) zs.length ∧ J ys W') ∨ (∃ pre, (∃ k, k ≤ zs.length ∧ pre = upto (bwd zs) k) ∧ Jx pre W')) := by
  refine callsIn_of_wp Tryz.func126 rfl hf ?_ hro
  simp only [Tryz.ntmps126, List.size_toArray, List.length_cons, List.length_nil, Nat.reduceAdd, Nat.reduceSub, Array.replicate_succ, Array.replicate_zero, List.push_toArray, List.append_toArray, List.nil_append, List.cons_append]
  gi_wp2
  gi_loopw [3] (fun i wr => ∃ k : Nat, k ≤ zs.length ∧ i = .int .i64 ((zs.length : Int) - 1 - k) ∧ J (upto (bwd zs) k) wr ∧ KeepB n₀ Bs W wr)
    (fun i _ => (intOf i + 1).toNat)
  case atStart => exact ⟨0, Nat.zero_le _, by simp, h0, KeepB.refl _ _ _⟩
  case round =>
    obtain ⟨k, hk, rfl, hJs, hnx⟩ := hrel
    by_cases hlt : k < zs.length
    · have hcx : wr.cell? ⟨b, off + (zs.length - 1 - k), none⟩ = some (.int .i64 (bwd zs k).2) := (hnx.1.cell (p := ⟨b, off + (zs.length - 1 - k), none⟩) hb).trans (hc _ (by omega))
      have hbs := (World.cell?_of_block (a := ⟨Bs, 0, none⟩) hnx.2).trans hBs
      obtain ⟨fn, tmps, assign, body, hy, hR⟩ := hY _ (bwd zs k) wr hJs (by rw [upto_length]; exact hlt)
      have e1 : (bwd zs k).1 = (zs.length : Int) - 1 - k := rfl
      rw [e1] at hy
      generalize (bwd zs k).2 = x at hcx hy
      clear e1
      have hgeo : (0 : Int) ≤ (zs.length : Int) - 1 - k := by omega
      have htn : ((zs.length : Int) - 1 - k).toNat = zs.length - 1 - k := by omega
      have HTN := Lib.hid htn
      clear hc
      gi_wp2
      refine hR.mono ?_
      rintro e W3 (⟨rfl, hJ3, hk3⟩ | ⟨rfl, hJx3⟩)
      · gi_wp2
        go_roundw
        case rel => exact ⟨k + 1, by omega, by simp; omega, by rw [upto_succ]; exact hJ3, keepB_t hnx hk3⟩
        case measure => simp [intOf]; omega
      · gi_wp2
        refine bodyPost_ret (results_none rfl _ _ _) rfl ?_
        exact ⟨⟨_, rfl⟩, .inr ⟨_, ⟨k + 1, by omega, (upto_succ _ _).symm⟩, hJx3⟩⟩
    · obtain rfl : k = zs.length := by omega
      gi_wp2
      go_end0
      exact ⟨⟨_, rfl⟩, .inl ⟨_, rfl, hJs⟩⟩

set_option maxRecDepth 100000 in
set_option maxHeartbeats 1000000 in
/-- .. over an empty list. -/
theorem backward1_nil_in (F : Fence) (n : Nat) (hf : F.fn 126) (hro : F.round = none) (l Bs cap : Nat) (a : Option Addr) (J : List (Int × Int) → World → Prop) (W : World) (hBs : W.cell? ⟨Bs, 0, none⟩ = some (.slice a 0 cap)) (h0 : J [] W) :
    CallsIn F n Tryz.prog 126 #[.func (.yield l) #[] #[], .pointer (some ⟨Bs, 0, none⟩)] W fun e W' => (∃ v, e = .returned v) ∧ J [] W' := by
  refine callsIn_of_wp Tryz.func126 rfl hf ?_ hro
  simp only [Tryz.ntmps126, List.size_toArray, List.length_cons, List.length_nil, Nat.reduceAdd, Nat.reduceSub, Array.replicate_succ, Array.replicate_zero, List.push_toArray, List.append_toArray, List.nil_append, List.cons_append]
  gi_wp2
  gi_loopw [3] (fun i wr => i = .int .i64 (-1) ∧ J [] wr) (fun _ _ => 0)
  case atStart => exact ⟨rfl, h0⟩
  case round =>
    obtain ⟨rfl, hJs⟩ := hrel
    gi_wp2
    go_end0
    exact ⟨⟨_, rfl⟩, hJs⟩

set_option maxHeartbeats 1000000 in
theorem backward_in (F : Fence) (n : Nat) (hf : F.fn 98) (hro : F.round = none) (a : Option Addr) (len cap : Nat) (w : World) :
    CallsIn F n Tryz.prog 98 #[.slice a len cap] w fun e w' => e = .returned (.func (.func 126) #[] #[.pointer (some ⟨w.heap.size, 0, none⟩)]) ∧ w' = w.alloc (.cells #[.slice a len cap] 30) := by
  refine callsIn_of_wp Tryz.func98 rfl hf ?_ hro
  simp only [Tryz.ntmps98, List.size_toArray, List.length_cons, List.length_nil, Nat.reduceAdd, Nat.reduceSub, Array.replicate_succ, Array.replicate_zero, List.push_toArray, List.append_toArray, List.nil_append, List.cons_append]
  gi_wp2
  go_ret
  exact ⟨rfl, rfl⟩

theorem backward_stops (F : Fence) (n : Nat) (hf : F.fn 126) (hro : F.round = none) (hn : 1 ≤ n) (Bs n₀ : Nat) (sv : Value) (zs : List Int) (hreach : zs.length ≤ 1000000000) (w : World) (hBs : Bs < w.heap.size) (_hn₀ : n₀ ≤ w.heap.size)
    (hc : w.cell? ⟨Bs, 0, none⟩ = some sv) (w1 : World) (h1n : w1.heap.size ≤ n₀) (hI1 : Ints w1 sv zs) (hI2 : Below w1.heap.size w1 w) :
    SeqStopsK F n Tryz.prog 126 #[.pointer (some ⟨Bs, 0, none⟩)] (fun x : Int × Int => #[Value.int .i64 x.1, Value.int .i64 x.2]) (KeepB n₀ Bs) (fun ys => ys = upto (bwd zs) zs.length) (fun pre => pre <+: upto (bwd zs) zs.length) zs.length w := fun l J Jx W hW _ _ hY h0 => by
  have hc' := (hW.cell (p := ⟨Bs, 0, none⟩) hBs).trans hc
  obtain ⟨a, cap, rfl, hcap, hI⟩ := hI1
  rcases Nat.eq_zero_or_pos zs.length with hz | hz
  · rw [hz] at hc' ⊢
    exact (backward1_nil_in F n hf hro l Bs cap a J W hc' h0).mono fun e W' ⟨he, hj⟩ => ⟨he, .inl ⟨_, rfl, hj⟩⟩
  · obtain ⟨b, off, rfl, hcs⟩ := hI hz
    have hb : b < w1.heap.size := lt_of_cellSome (hcs 0 hz)
    refine (backward1_in F n hf hro hn l Bs n₀ b off cap zs hreach (by omega) J Jx hY W hc' (fun j hj => ?_) h0).mono ?_
    · exact (hW.cell (p := ⟨b, off + j, none⟩) (by show b < _; have := hI2.size; omega)).trans ((hI2.cell (p := ⟨b, off + j, none⟩) hb).trans (hcs j hj))
    · rintro e W' ⟨he, ⟨ys, rfl, hj⟩ | ⟨pre, ⟨k, hk, rfl⟩, hj⟩⟩
      · exact ⟨he, .inl ⟨_, rfl, hj⟩⟩
      · exact ⟨he, .inr ⟨_, upto_prefix _ hk, hj⟩⟩
end

section
open Go.RowKit Go.Shelf

attribute [local go_sem] Oper.semAt_some

def atStep (zr zi : Int) (o x : Int × Int) : Int × Int := (wrap64 (wrap64 (wrap64 (o.1 * zr) - wrap64 (o.2 * zi)) + x.2), wrap64 (wrap64 (o.1 * zi) + wrap64 (o.2 * zr)))
def atW (p : List Int) (zr zi : Int) : Int × Int := (upto (bwd p) p.length).foldl (atStep zr zi) (0, 0)
theorem atStep_snoc (zr zi : Int) (pre : List (Int × Int)) (x : Int × Int) : (pre ++ [x]).foldl (atStep zr zi) (0, 0) = atStep zr zi (pre.foldl (atStep zr zi) (0, 0)) x := by simp

set_option maxRecDepth 100000 in
set_option maxHeartbeats 2000000 in
theorem at_in (F : Fence) (n : Nat) (hf : F.fn 58) (hf2 : F.fn 98) (hf3 : F.fn 126) (hro : F.round = none) (hn : 3 ≤ n) (v : Value) (p : List Int) (zr zi : Int) (w : World) (hp : Ints w v p) (hl : p.length ≤ 1000000000) :
    CallsIn F n Tryz.prog 58 #[v, .agg #[.int .i64 zr, .int .i64 zi]] w fun e W' => e = .returned (.agg #[.int .i64 (atW p zr zi).1, .int .i64 (atW p zr zi).2]) ∧ Below w.heap.size w W' := by
  have h1 : 1 ≤ n := by omega
  have hp' := hp
  obtain ⟨a, cap, rfl, hcap, _⟩ := hp'
  refine callsIn_of_wp_marks Tryz.func58 rfl hf ?_ hro
  simp only [Tryz.ntmps58, List.size_toArray, List.length_cons, List.length_nil, Nat.reduceAdd, Nat.reduceSub, Array.replicate_succ, Array.replicate_zero, List.push_toArray, List.append_toArray, List.nil_append, List.cons_append]
  gi_wp2_with (gi_at_call 98; refine (backward_in F (n - 1) hf2 hro _ _ _ _).mono ?_; rintro e w' ⟨rfl, rfl⟩)
  obtain ⟨w1, hw1⟩ : ∃ w1, w1 = w.alloc (Obj.cells #[Value.int IntKind.i64 zr, Value.int IntKind.i64 zi] 51) := ⟨_, rfl⟩
  have z := Box2.new w 51 (.int .i64 zr) (.int .i64 zi)
  have b1 := below_new w (Obj.cells #[Value.int IntKind.i64 zr, Value.int IntKind.i64 zi] 51)
  have s1 : w1.heap.size = w.heap.size + 1 := by rw [hw1]; simp
  rw [← hw1] at z b1 ⊢
  obtain ⟨w2, hw2⟩ : ∃ w2, w2 = w1.alloc (Obj.cells #[Value.int IntKind.i64 0, Value.int IntKind.i64 0] 51) := ⟨_, rfl⟩
  have r := Box2.new w1 51 (.int .i64 0) (.int .i64 0)
  have z := z.alloc (Obj.cells #[Value.int IntKind.i64 0, Value.int IntKind.i64 0] 51)
  have b2 := bthen b1 (below_new w1 (Obj.cells #[Value.int IntKind.i64 0, Value.int IntKind.i64 0] 51))
  have s2 : w2.heap.size = w.heap.size + 1 + 1 := by rw [hw2]; simp [s1]
  rw [← hw2] at z r b2 ⊢
  obtain ⟨w3, hw3⟩ : ∃ w3, w3 = w2.alloc (Obj.cells #[Value.int IntKind.i64 0, Value.int IntKind.i64 0] 51) := ⟨_, rfl⟩
  have o := Box2.new w2 51 (.int .i64 0) (.int .i64 0)
  have z := z.alloc (Obj.cells #[Value.int IntKind.i64 0, Value.int IntKind.i64 0] 51)
  have r := r.alloc (Obj.cells #[Value.int IntKind.i64 0, Value.int IntKind.i64 0] 51)
  have b3 := bthen b2 (below_new w2 (Obj.cells #[Value.int IntKind.i64 0, Value.int IntKind.i64 0] 51))
  have s3 : w3.heap.size = w.heap.size + 1 + 1 + 1 := by rw [hw3]; simp [s2]
  rw [← hw3] at z r o b3 ⊢
  obtain ⟨W0, hW0⟩ : ∃ W0, W0 = w3.alloc (Obj.cells #[Value.slice a p.length cap] 30) := ⟨_, rfl⟩
  have c4 := cell_new w3 #[Value.slice a p.length cap] 30 0
  have z := z.alloc (Obj.cells #[Value.slice a p.length cap] 30)
  have r := r.alloc (Obj.cells #[Value.slice a p.length cap] 30)
  have o := o.alloc (Obj.cells #[Value.slice a p.length cap] 30)
  have hB0 := bthen b3 (below_new w3 (Obj.cells #[Value.slice a p.length cap] 30))
  have s4 : W0.heap.size = w.heap.size + 4 := by rw [hW0]; simp [s3]
  rw [← hW0] at z r o c4 hB0 ⊢
  clear hW0 hw1 hw2 hw3 b1 b2 b3
  rw [s1] at r
  rw [s2] at o
  rw [s3] at c4
  clear s1 s2 s3
  refine wpIn_rangeFunc_ownG hro h1 (gf := 126) (lb := #[.pointer (some ⟨w.heap.size + 1 + 1 + 1, 0, none⟩)]) rfl hf3 (enters_of Tryz.func126 (by kernel_rfl) rfl)
    (backward_stops F (n - 1) hf3 hro (by omega) (w.heap.size + 1 + 1 + 1) (w.heap.size + 1 + 1) _ p hl W0 (by omega) (by omega) c4 w (by omega) hp hB0) keepB_t (keepB_b (by omega) (by omega)) (Below.refl _ _) (fun _ => rfl)
    (fun pre W => (Box2 W w.heap.size (.int .i64 zr) (.int .i64 zi) ∧ Box2 W (w.heap.size + 1) (.int .i64 0) (.int .i64 0) ∧ Box2 W (w.heap.size + 1 + 1) (.int .i64 (pre.foldl (atStep zr zi) (0, 0)).1) (.int .i64 (pre.foldl (atStep zr zi) (0, 0)).2)) ∧ Below w.heap.size w W)
    (fun _ _ _ => False)
    (OwnFrom.and (Own.from (fun s A B row hs hg hr => ⟨hs.1.kept hg hr, hs.2.1.kept hg hr, hs.2.2.kept hg hr⟩) _) (ownFrom_below (Nat.le_refl _) (by omega)))
    (fun _ _ _ _ _ hs _ _ => hs)
    ⟨⟨z, r, o⟩, hB0⟩
    (fun x => { tmps := #[Value.slice a p.length cap, Value.agg #[Value.int IntKind.i64 zr, Value.int IntKind.i64 zi], undef, Value.pointer (some { block := w.heap.size, off := 0 }), Value.pointer (some { block := w.heap.size + 1, off := 0 }), Value.pointer (some { block := w.heap.size + 1 + 1, off := 0 }), undef, .int .i64 x.2, Value.slice a p.length cap, Value.func (Fn.func 126) #[] #[Value.pointer (some { block := w.heap.size + 1 + 1 + 1, off := 0 })], .int .i64 x.1, .int .i64 x.2, undef, undef, undef, undef, undef, undef, undef, undef, undef, undef, undef, undef, undef, undef, undef, undef, undef, undef, undef, undef, undef, undef, undef, undef, undef, undef], defers := [] }) ?assign ?body ?done ?stop
  case assign =>
    intro l x W K hK
    gi_wp2
    exact hK
  case body =>
    rintro l pre x W ⟨⟨z, r, o⟩, hB⟩ _
    have z' := z
    have o' := o
    obtain ⟨z0, z1, _, _⟩ := z
    obtain ⟨o0, o1, g0, g1⟩ := o
    gi_wp2
    refine ⟨((KeepsOthers.setCell _ _ _).trans (KeepsOthers.setCell _ _ _)).from _, ((KeepB.refl _ _ _).setCell (by exact Nat.le_refl _) (by simp) _).setCell (by exact Nat.le_refl _) (by simp) _, ⟨?_, ?_, ?_⟩, (hB.setCell (by simp; omega) _).setCell (by simp; omega) _⟩
    · exact (z'.other (by simp; omega) _).other (by simp; omega) _
    · exact (r.other (by simp) _).other (by simp) _
    · rw [atStep_snoc]; exact o'.set _ _
  case done =>
    rintro D ys W hD rfl ⟨⟨z, r, o⟩, hB⟩ hK
    have r' := r
    have hx : (upto (bwd p) p.length).foldl (atStep zr zi) (0, 0) = atW p zr zi := rfl
    rw [hx] at o
    clear hx
    obtain ⟨o0, o1, _, _⟩ := o
    obtain ⟨r0, r1, g0, g1⟩ := r
    gi_wp2
    have hK' := (KeepsOthers.setCell (W.setCell ⟨w.heap.size + 1, 0, none⟩ (.int .i64 (atW p zr zi).1)) ⟨w.heap.size + 1, 1, none⟩ (.int .i64 (atW p zr zi).2)).same D _ ((KeepsOthers.setCell W ⟨w.heap.size + 1, 0, none⟩ (.int .i64 (atW p zr zi).1)).same D _ hK rfl) rfl
    have rr := (r'.set (.int .i64 (atW p zr zi).1) (.int .i64 (atW p zr zi).2)).kept (grownBy_putObj' _ D (.deferred none)) (fun r e => by cases e; exact ⟨_, hK', rfl⟩)
    refine ⟨by simp, .inl ⟨_, _, rfl, run_takeDeferred hK', ?_⟩⟩
    refine ⟨.agg #[.int .i64 (atW p zr zi).1, .int .i64 (atW p zr zi).2], ?_, rfl, ((hB.setCell (by simp) _).setCell (by simp) _).trans (belowK_b (w := w) (Nat.le_refl _) _ D _ _ (by omega) hK' rfl rfl)⟩
    simp [results, Tryz.f58, go_sem, rr.c0, rr.c1]
  case stop =>
    rintro D c pre W _ _ h _
    exact h.elim

theorem at_any (v : Value) (p : List Int) (zr zi : Int) (w : World) (hp : Ints w v p) (hl : p.length ≤ 1000000000) :
    Calls Tryz.prog 58 #[v, .agg #[.int .i64 zr, .int .i64 zi]] w fun e W' => e = .returned (.agg #[.int .i64 (atW p zr zi).1, .int .i64 (atW p zr zi).2]) ∧ Below w.heap.size w W' :=
  callsIn_wide.1 (at_in Fence.wide 3 trivial trivial trivial rfl (by omega) v p zr zi w hp hl)
end

def valueE (p : List Int) (zr zi : Int) : Int := firstE [checkPolyE p, withinE zr (-8) 8, withinE zi (-8) 8]
def valueR (p : List Int) (zr zi : Int) : Int × Int := if valueE p zr zi ≠ 0 then (0, 0) else if zr = 0 ∧ zi = 0 then (p[0]?.getD 0, 0) else atW p zr zi

set_option maxHeartbeats 1000000 in
theorem Value_any (v : Value) (p : List Int) (zr zi : Int) (w : World) (hp : Ints w v p) (hl : p.length * 8 ≤ 140737488351232) :
    Calls Tryz.prog 18 #[v, .agg #[.int .i64 zr, .int .i64 zi]] w fun r w' => r = .returned (.tuple #[.agg #[.int .i64 (valueR p zr zi).1, .int .i64 (valueR p zr zi).2], .int .i64 (valueE p zr zi)]) ∧ Below w.heap.size w w' := by
  go_enter Tryz.func18, Tryz.ntmps18
  go_wp2_with fail
  obtain ⟨w1, hw1⟩ : ∃ w1, w1 = w.alloc (Obj.cells #[Value.int IntKind.i64 zr, Value.int IntKind.i64 zi] 51) := ⟨_, rfl⟩
  have z := Box2.new w 51 (.int .i64 zr) (.int .i64 zi)
  have b1 := below_new w (Obj.cells #[Value.int IntKind.i64 zr, Value.int IntKind.i64 zi] 51)
  have s1 : w1.heap.size = w.heap.size + 1 := by rw [hw1]; simp
  rw [← hw1] at z b1 ⊢
  obtain ⟨W, hW⟩ : ∃ W, W = w1.alloc (Obj.cells #[Value.int IntKind.i64 0, Value.int IntKind.i64 0] 51) := ⟨_, rfl⟩
  have r := Box2.new w1 51 (.int .i64 0) (.int .i64 0)
  have z := z.alloc (Obj.cells #[Value.int IntKind.i64 0, Value.int IntKind.i64 0] 51)
  have hB := bthen b1 (below_new w1 (Obj.cells #[Value.int IntKind.i64 0, Value.int IntKind.i64 0] 51))
  rw [← hW] at z r hB ⊢
  clear hW hw1 b1
  rw [s1] at r
  clear s1
  have z' := z
  obtain ⟨z0, z1, _, _⟩ := z
  have t1 := CheckPoly_any v p W.drew hl (hp.below hB.drew)
  have T1 := Lib.hid t1
  clear t1
  refine wp_region_held_drew (S := (fun w' => w'.cell? ⟨w.heap.size, 0, none⟩ = some (.int .i64 zr) ∧ w'.cell? ⟨w.heap.size, 1, none⟩ = some (.int .i64 zi))) (by kernel_rfl) ?_ (fun hHeld0 => ?_)
  · (try dsimp only); (first | go_keep | exact ⟨(z'.below h2 z'.lt).c0, (z'.below h2 z'.lt).c1⟩)
  refine wpAnyH_take (i := 0) (oi := { dst := some 7, op := Op.move (Operand.tmp 0), type := 30, pos := "loop.go:111", after := #[], guard := none }) (v := ?_) rfl (by kernel_rfl) (by kernel_rfl) (by kernel_rfl) (fun _ _ _ h => h) (Or.inl ⟨by rfl, ?_⟩) (by assumption) ?_
  rotate_left
  · (intro w hSw; (try dsimp only at hSw); go_simp); (try with_reducible rfl)
  try simp only [Act.put, List.setIfInBounds_toArray, List.set_cons_zero, List.set_cons_succ]
  refine wpAnyH_take (i := 2) (oi := { dst := some 9, op := Op.fieldAddr 51 (Operand.tmp 3) 0, type := 0, pos := "loop.go:111", after := #[], guard := none }) (v := ?_) rfl (by kernel_rfl) (by kernel_rfl) (by kernel_rfl) (fun _ _ _ h => h) (Or.inl ⟨by rfl, ?_⟩) (by assumption) ?_
  rotate_left
  · (intro w hSw; (try dsimp only at hSw); go_simp); (try with_reducible rfl)
  try simp only [Act.put, List.setIfInBounds_toArray, List.set_cons_zero, List.set_cons_succ]
  refine wpAnyH_take (i := 3) (oi := { dst := some 10, op := Op.load 3 (Operand.tmp 9), type := 3, pos := "loop.go:111", after := #[{ on := 2, ground := Ground.data }], guard := none }) (v := ?_) rfl (by kernel_rfl) (by kernel_rfl) (by kernel_rfl) (fun _ _ _ h => h) (Or.inl ⟨by rfl, ?_⟩) (by assumption) ?_
  rotate_left
  · (intro w hSw; (try dsimp only at hSw); go_simp); (try with_reducible rfl)
  try simp only [Act.put, List.setIfInBounds_toArray, List.set_cons_zero, List.set_cons_succ]
  refine wpAnyH_take (i := 5) (oi := { dst := some 12, op := Op.fieldAddr 51 (Operand.tmp 3) 1, type := 0, pos := "loop.go:111", after := #[], guard := none }) (v := ?_) rfl (by kernel_rfl) (by kernel_rfl) (by kernel_rfl) (fun _ _ _ h => h) (Or.inl ⟨by rfl, ?_⟩) (by assumption) ?_
  rotate_left
  · (intro w hSw; (try dsimp only at hSw); go_simp); (try with_reducible rfl)
  try simp only [Act.put, List.setIfInBounds_toArray, List.set_cons_zero, List.set_cons_succ]
  refine wpAnyH_take (i := 6) (oi := { dst := some 13, op := Op.load 3 (Operand.tmp 12), type := 3, pos := "loop.go:111", after := #[{ on := 5, ground := Ground.data }], guard := none }) (v := ?_) rfl (by kernel_rfl) (by kernel_rfl) (by kernel_rfl) (fun _ _ _ h => h) (Or.inl ⟨by rfl, ?_⟩) (by assumption) ?_
  rotate_left
  · (intro w hSw; (try dsimp only at hSw); go_simp); (try with_reducible rfl)
  try simp only [Act.put, List.setIfInBounds_toArray, List.set_cons_zero, List.set_cons_succ]
  refine wpAnyH_ready (rs := [1]) (by kernel_rfl) (by simp) ?_
  refine (AllReadyH.cons (o := { dst := some 8, op := Op.call { callee := Callee.value (Operand.func 54), args := #[Operand.tmp 7], argTypes := #[30] }, type := 27, pos := "loop.go:111", after := #[{ on := 0, ground := Ground.data }], guard := none }) rfl (fun K hK => ?_) AllReadyH.nil)
  go_simp
  (first | (go_at_call 54; (with_reducible refine T1.out.mono ?_); rintro e w2 ⟨rfl, h2'⟩; have h2 := below_drew h2'; clear h2') | (go_at_call 57; (with_reducible refine (within_any _ _ _ _).mono ?_); rintro e w' ⟨rfl, rfl⟩) | (go_at_call 45; (with_reducible refine (first3 _ _ _ _ _).mono ?_); rintro e w' ⟨rfl, rfl⟩))
  (try go_wp2_with fail)
  refine hK.out _ _ ?_ (fun hHeld1 => ?_)
  · (try dsimp only); (first | go_keep | exact ⟨(z'.below h2 z'.lt).c0, (z'.below h2 z'.lt).c1⟩)
  clear hK K hHeld0
  try simp only [Act.put, List.setIfInBounds_toArray, List.set_cons_zero, List.set_cons_succ]
  refine wpAnyH_ready (rs := [4]) (by kernel_rfl) (by simp) ?_
  refine (AllReadyH.cons (o := { dst := some 11, op := Op.call { callee := Callee.value (Operand.func 57), args := #[Operand.tmp 10, Operand.const (Value.int IntKind.i64 (-8)), Operand.const (Value.int IntKind.i64 8)], argTypes := #[3, 3, 3] }, type := 27, pos := "loop.go:111", after := #[{ on := 3, ground := Ground.data }, { on := 1, ground := Ground.chain }], guard := none }) rfl (fun K hK => ?_) AllReadyH.nil)
  go_simp
  (first | (go_at_call 54; (with_reducible refine T1.out.mono ?_); rintro e w2 ⟨rfl, h2'⟩; have h2 := below_drew h2'; clear h2') | (go_at_call 57; (with_reducible refine (within_any _ _ _ _).mono ?_); rintro e w' ⟨rfl, rfl⟩) | (go_at_call 45; (with_reducible refine (first3 _ _ _ _ _).mono ?_); rintro e w' ⟨rfl, rfl⟩))
  (try go_wp2_with fail)
  refine hK.out _ _ ?_ (fun hHeld2 => ?_)
  · (try dsimp only); (first | go_keep | exact ⟨(z'.below h2 z'.lt).c0, (z'.below h2 z'.lt).c1⟩)
  clear hK K hHeld1
  try simp only [Act.put, List.setIfInBounds_toArray, List.set_cons_zero, List.set_cons_succ]
  refine wpAnyH_ready (rs := [7]) (by kernel_rfl) (by simp) ?_
  refine (AllReadyH.cons (o := { dst := some 14, op := Op.call { callee := Callee.value (Operand.func 57), args := #[Operand.tmp 13, Operand.const (Value.int IntKind.i64 (-8)), Operand.const (Value.int IntKind.i64 8)], argTypes := #[3, 3, 3] }, type := 27, pos := "loop.go:111", after := #[{ on := 6, ground := Ground.data }, { on := 4, ground := Ground.chain }], guard := none }) rfl (fun K hK => ?_) AllReadyH.nil)
  go_simp
  (first | (go_at_call 54; (with_reducible refine T1.out.mono ?_); rintro e w2 ⟨rfl, h2'⟩; have h2 := below_drew h2'; clear h2') | (go_at_call 57; (with_reducible refine (within_any _ _ _ _).mono ?_); rintro e w' ⟨rfl, rfl⟩) | (go_at_call 45; (with_reducible refine (first3 _ _ _ _ _).mono ?_); rintro e w' ⟨rfl, rfl⟩))
  (try go_wp2_with fail)
  refine hK.out _ _ ?_ (fun hHeld3 => ?_)
  · (try dsimp only); (first | go_keep | exact ⟨(z'.below h2 z'.lt).c0, (z'.below h2 z'.lt).c1⟩)
  clear hK K hHeld2
  try simp only [Act.put, List.setIfInBounds_toArray, List.set_cons_zero, List.set_cons_succ]
  refine wpAnyH_ready (rs := [8]) (by kernel_rfl) (by simp) ?_
  refine (AllReadyH.cons (o := { dst := some 15, op := Op.buildSlice 155 3 #[(0, Operand.tmp 8), (1, Operand.tmp 11), (2, Operand.tmp 14)], type := 155, pos := "loop.go:111", after := #[{ on := 1, ground := Ground.data }, { on := 4, ground := Ground.data }, { on := 7, ground := Ground.data }], guard := none }) rfl (fun K hK => ?_) AllReadyH.nil)
  go_simp
  refine hK.out _ _ ?_ (fun hHeld4 => ?_)
  · (try dsimp only); (first | go_keep | exact ⟨(z'.below h2 z'.lt).c0, (z'.below h2 z'.lt).c1⟩)
  clear hK K hHeld3
  try simp only [Act.put, List.setIfInBounds_toArray, List.set_cons_zero, List.set_cons_succ]
  refine wpAnyH_ready (rs := [9]) (by kernel_rfl) (by simp) ?_
  refine (AllReadyH.cons (o := { dst := some 16, op := Op.call { callee := Callee.value (Operand.func 45), args := #[Operand.tmp 15], argTypes := #[155] }, type := 27, pos := "loop.go:111", after := #[{ on := 8, ground := Ground.data }, { on := 7, ground := Ground.chain }], guard := none }) rfl (fun K hK => ?_) AllReadyH.nil)
  go_simp
  (first | (go_at_call 54; (with_reducible refine T1.out.mono ?_); rintro e w2 ⟨rfl, h2'⟩; have h2 := below_drew h2'; clear h2') | (go_at_call 57; (with_reducible refine (within_any _ _ _ _).mono ?_); rintro e w' ⟨rfl, rfl⟩) | (go_at_call 45; (with_reducible refine (first3 _ _ _ _ _).mono ?_); rintro e w' ⟨rfl, rfl⟩))
  (try go_wp2_with fail)
  refine hK.out _ _ ?_ (fun hHeld5 => ?_)
  · (try dsimp only); (first | go_keep | exact ⟨(z'.below h2 z'.lt).c0, (z'.below h2 z'.lt).c1⟩)
  clear hK K hHeld4
  try simp only [Act.put, List.setIfInBounds_toArray, List.set_cons_zero, List.set_cons_succ]
  refine wpAnyH_take (i := 10) (oi := { dst := some 6, op := Op.assign (Operand.tmp 16), type := 27, pos := "loop.go:111", after := #[{ on := 9, ground := Ground.data }, { on := 9, ground := Ground.chain }, { on := 0, ground := Ground.phase }, { on := 1, ground := Ground.phase }, { on := 2, ground := Ground.phase }, { on := 3, ground := Ground.phase }, { on := 4, ground := Ground.phase }, { on := 5, ground := Ground.phase }, { on := 6, ground := Ground.phase }, { on := 7, ground := Ground.phase }, { on := 8, ground := Ground.phase }, { on := 9, ground := Ground.phase }], guard := none }) (v := ?_) rfl (by kernel_rfl) (by kernel_rfl) (by kernel_rfl) (fun _ _ _ h => h) (Or.inl ⟨by rfl, ?_⟩) (by assumption) ?_
  rotate_left
  · (intro w hSw; (try dsimp only at hSw); go_simp); (try with_reducible rfl)
  try simp only [Act.put, List.setIfInBounds_toArray, List.set_cons_zero, List.set_cons_succ]
  refine wpAnyH_done (by kernel_rfl) ?_ _
  clear hHeld5
  have h3 := h2.alloc h2.size (.cells #[.int .i64 (checkPolyE p), .int .i64 (withinE zr (-8) 8), .int .i64 (withinE zi (-8) 8)] 27)
  obtain ⟨V, hV⟩ : ∃ V, V = w2.alloc (.cells #[.int .i64 (checkPolyE p), .int .i64 (withinE zr (-8) 8), .int .i64 (withinE zi (-8) 8)] 27) := ⟨_, rfl⟩
  rw [← hV] at h3 ⊢
  clear hV h2 T1 z0 z1
  have hv : Below w.heap.size w V := bthen hB h3
  have z := z'.below h3 z'.lt
  have r := r.below h3 r.lt
  have r' := r
  obtain ⟨z0, z1, _, _⟩ := z
  obtain ⟨r0, r1, g0, g1⟩ := r
  have hE : firstE [checkPolyE p, withinE zr (-8) 8, withinE zi (-8) 8] = valueE p zr zi := rfl
  rw [hE]
  by_cases he : valueE p zr zi = 0
  · obtain ⟨ep, _⟩ := firstE_cons_ok (he ▸ hE)
    have ⟨p1, p5⟩ := checkPolyE_ok ep
    clear ep hE
    rw [he]
    have HE := Lib.hid he
    clear he
    by_cases hz : zr = 0 ∧ zi = 0
    · obtain ⟨rfl, rfl⟩ := hz
      obtain ⟨a, cap, rfl, hcap, hc⟩ := hp.below hv
      obtain ⟨b, off, rfl, hcs⟩ := hc p1
      have hc0 := hcs 0 p1
      rw [Nat.add_zero] at hc0
      clear hc hcs
      generalize hx : p[0]?.getD 0 = x at hc0
      have HX := Lib.hid hx
      clear hx
      have hp0 : (0 : Int) < (p.length : Int) := by omega
      have rr := r'.set (.int .i64 x) (.int .i64 0)
      go_wp2
      refine bodyPost_ret (v := .tuple #[.agg #[.int .i64 x, .int .i64 0], .int .i64 0]) (by simp [results, Tryz.f18, go_sem, rr.c0, rr.c1]) rfl ⟨?_, (hv.setCell (by simp) _).setCell (by simp) _⟩
      rw [valueR, if_neg (by rw [HE.out]; simp), if_pos ⟨rfl, rfl⟩, HX.out, HE.out]
    · have ta := at_any v p zr zi V (hp.below hv) (by omega)
      have TA := Lib.hid ta
      clear ta
      have hR : valueR p zr zi = atW p zr zi := by rw [valueR, if_neg (by rw [HE.out]; simp), if_neg hz]
      have HR := Lib.hid hR
      clear hR
      by_cases hzr : zr = 0
      · have hzi : ¬ zi = 0 := fun h => hz ⟨hzr, h⟩
        subst hzr
        go_wp2_with fail
        refine TA.out.mono ?_
        rintro e w3 ⟨rfl, h4⟩
        have r2 := r'.below h4 r'.lt
        have hv2 := bthen hv h4
        generalize hy : atW p 0 zi = y
        have HY := Lib.hid hy
        clear hy
        have rr := r2.set (.int .i64 y.1) (.int .i64 y.2)
        clear r0 r1 g0 g1
        obtain ⟨r0, r1, g0, g1⟩ := r2
        go_wp2
        refine bodyPost_ret (v := .tuple #[.agg #[.int .i64 y.1, .int .i64 y.2], .int .i64 0]) (by simp [results, Tryz.f18, go_sem, rr.c0, rr.c1]) rfl ⟨?_, (hv2.setCell (by simp) _).setCell (by simp) _⟩
        rw [HE.out, HR.out, HY.out]
      · go_wp2_with fail
        refine TA.out.mono ?_
        rintro e w3 ⟨rfl, h4⟩
        have r2 := r'.below h4 r'.lt
        have hv2 := bthen hv h4
        generalize hy : atW p zr zi = y
        have HY := Lib.hid hy
        clear hy
        have rr := r2.set (.int .i64 y.1) (.int .i64 y.2)
        clear r0 r1 g0 g1
        obtain ⟨r0, r1, g0, g1⟩ := r2
        go_wp2
        refine bodyPost_ret (v := .tuple #[.agg #[.int .i64 y.1, .int .i64 y.2], .int .i64 0]) (by simp [results, Tryz.f18, go_sem, rr.c0, rr.c1]) rfl ⟨?_, (hv2.setCell (by simp) _).setCell (by simp) _⟩
        rw [HE.out, HR.out, HY.out]
  · have rr := r'.set (.int .i64 0) (.int .i64 0)
    go_wp2
    refine bodyPost_ret (v := .tuple #[.agg #[.int .i64 0, .int .i64 0], .int .i64 (valueE p zr zi)]) (by simp [results, Tryz.f18, go_sem, rr.c0, rr.c1]) rfl ⟨?_, (hv.setCell (by simp) _).setCell (by simp) _⟩
    rw [valueR, if_pos he]

theorem fitting_yes (v : Value) (l : List Int) (w : World) (hl : l.length ≤ 1000000000) (hv : Ints w v l) (hg : l.any largeB = true) :
    Calls Tryz.prog 68 #[v] w fun r w' => r = .returned (.tuple #[.slice none 0 0, .int .i64 4]) ∧ w = w' := by
  have h := fitting_any v l w hl hv
  rw [if_pos hg, if_pos hg] at h
  exact h
theorem fitting_no (v : Value) (l : List Int) (w : World) (hl : l.length ≤ 1000000000) (hv : Ints w v l) (hg : ¬ l.any largeB = true) :
    Calls Tryz.prog 68 #[v] w fun r w' => r = .returned (.tuple #[v, .int .i64 0]) ∧ w = w' := by
  have h := fitting_any v l w hl hv
  rw [if_neg hg, if_neg hg] at h
  exact h

def prod1E (p q : List Int) : Int := firstE [checkPolyE p, checkPolyE q]
def prodE (p q : List Int) : Int := if prod1E p q ≠ 0 then prod1E p q else if 5 < (timesW p q).length then 5 else if (timesW p q).any largeB then 4 else 0
def prodR (p q : List Int) : List Int := if prodE p q ≠ 0 then [] else timesW p q

set_option maxHeartbeats 400000 in
theorem checkFirst1_any (x : Int) (w : World) :
    Calls Tryz.prog 108 #[.int .i64 x] w fun r w' => r = .returned (.int .i64 (withinE x (-1000) 1000)) ∧ w = w' := by
  go_enter Tryz.func108, Tryz.ntmps108
  go_wp2_with fail
  refine (within_any _ _ _ _).mono ?_
  rintro e w' ⟨rfl, rfl⟩
  go_wp2
  go_ret
  exact ⟨rfl, rfl⟩

theorem Tryz.enterCheckFirst1 (args : Array Value) (w : World) : Sem.run Tryz.prog (callFunc 108 args) w = .ok (.enter 108 args) w :=
  MuLone.run_callFunc_enter Tryz.func108 (by kernel_rfl) rfl args w

def checkFirstE (p l : List Int) : Int := if l.length + 1 ≠ p.length then 2 else firstE (l.map fun x => withinE x (-1000) 1000)

set_option maxHeartbeats 400000 in
theorem checkFirst_any (vp vl : Value) (p l : List Int) (w : World) (hp : Ints w vp p) (hl : Ints w vl l) (hp2 : p.length ≤ 1000000) (hl2 : l.length ≤ 100000) :
    Calls Tryz.prog 70 #[vp, vl] w fun r w' => r = .returned (.int .i64 (checkFirstE p l)) ∧ Below w.heap.size w w' := by
  have hl0 := hl
  obtain ⟨al, cl, rfl, _, _⟩ := hl
  have dp := degree_i hp hp2
  by_cases h : l.length + 1 = p.length
  · have hb : ((l.length : Int) != (p.length : Int) - 1) = false := by rw [bne_eq_false_iff_eq]; omega
    go_enter Tryz.func70, Tryz.ntmps70
    go_wp2_with fail
    refine (dp _).mono ?_
    rintro e w' ⟨rfl, rfl⟩
    go_wp2_with fail
    refine (mappedE_any 108 #[] Tryz.enterCheckFirst1 (fun x => withinE x (-1000) 1000) _ l _ (by omega) hl0 (fun x _ w1 _ => checkFirst1_any x w1)).mono ?_
    rintro e w1 ⟨⟨u, rfl, hu⟩, hb2⟩
    go_wp2_with fail
    refine (first_any _ _ _ (by simp; unfold maxLen; omega) hu).mono ?_
    rintro e w' ⟨rfl, rfl⟩
    go_wp2
    go_ret
    exact ⟨ret_int (by rw [checkFirstE, if_neg (by omega)]), hb2⟩
  · have hb : ((l.length : Int) != (p.length : Int) - 1) = true := by rw [bne_iff_ne]; omega
    go_enter Tryz.func70, Tryz.ntmps70
    go_wp2_with fail
    refine (dp _).mono ?_
    rintro e w' ⟨rfl, rfl⟩
    go_wp2
    go_ret
    exact ⟨ret_int (by rw [checkFirstE, if_pos h]), Below.refl _ _⟩

end Go.Proofs.YtfdehcphmmhjaaaGreatDoor

/- The package phasor: what a stream holds. -/
import Derived.Test.YtjmdnolmaofbiaaDoorThmD
import Derived.Sort.CutIn
import Derived.Maps.OwnIn
namespace Go.Proofs.YtjmdnolmaofbiaaDoor
set_option linter.unusedSimpArgs false
set_option linter.unusedVariables false
open Go.RowKit

/-- the law for a loop over an iterator of two values, the second an array of bytes that the round boxes. -/
theorem wp_range2 {P : Program} {g : Operand} {p q s r : Nat} {T : TypeId} {assign body : Code} {Q : Exit → Act → World → Prop} {a : Act} {w : World}
    {gf : Nat} {lb : Array Value} (hg : a.eval g = .func (.func gf) #[] lb) (eg : ∀ args w, (callFunc gf args).run P w = .ok (.enter gf args) w)
    {X : List (Nat × List Int) → Nat × List Int → Prop} {Kp : World → World → Prop} {S Sp : List (Nat × List Int) → Prop} {w0 : World} (hseq : SeqX Fence.wide 4 P gf lb (fun x : Nat × List Int => #[.int .i64 (x.1 : Int), .agg (ua x.2)]) (fun pre x _ => X pre x) Kp S Sp false w0)
    (hKt : ∀ {A B C : World}, Kp A B → Kp B C → Kp A C) (hKb : ∀ (W : World) (l : Nat) (o o' : Obj), w.heap.size ≤ l → W.heap[l]? = some o → o.isCells = false → o.isWalk = false → Kp W (W.putObj l o')) (hb0 : Below w0.heap.size w0 w)
    (I : List (Nat × List Int) → World → Prop) (Ix : Code → List (Nat × List Int) → World → Prop) (hI : OwnFrom w.heap.size I) (hIx : ∀ c, OwnFrom w.heap.size (Ix c)) (h0 : I [] w)
    (hKl : ∀ pre W W', I pre W → Below W.heap.size W W' → Kp W W')
    (hassign : ∀ (l : Nat) (x : Nat × List Int) (W : World) (K : Act → World → Prop), (∀ (B9 : Nat) (W' : World), Below W.heap.size W W' → BlkU W' B9 T x.2 → K { tmps := (((a.tmps.setIfInBounds p (.int .i64 (x.1 : Int))).setIfInBounds q (.agg (ua x.2))).setIfInBounds s (.int .i64 (x.1 : Int))).setIfInBounds r (.pointer (some ⟨B9, 0, none⟩)), defers := [] } W') → x.2.length = 16 →
      assign.wpIn (Fence.wide.inRound l) 3 P (Exit.then K (fun _ _ _ => False)) { tmps := (a.tmps.setIfInBounds p (.int .i64 (x.1 : Int))).setIfInBounds q (.agg (ua x.2)), defers := [] } W)
    (hX16 : ∀ pre x, X pre x → x.2.length = 16)
    (hbody : ∀ (l : Nat) (pre : List (Nat × List Int)) (x : Nat × List Int) (B9 : Nat) (W : World), I pre W → X pre x → BlkU W B9 T x.2 → body.wpIn (Fence.wide.inRound l) 3 P (ownPostG w.heap.size Kp I Ix (pre ++ [x]) W) { tmps := (((a.tmps.setIfInBounds p (.int .i64 (x.1 : Int))).setIfInBounds q (.agg (ua x.2))).setIfInBounds s (.int .i64 (x.1 : Int))).setIfInBounds r (.pointer (some ⟨B9, 0, none⟩)), defers := [] } W)
    (hdone : ∀ (D : Nat) (xs : List (Nat × List Int)) (W : World), w.heap.size ≤ D → S xs → I xs W → W.heap[D]? = some (.deferred (some [])) → Q .normal { a with defers := { target := .collected D, args := #[] } :: a.defers } W)
    (hstop : ∀ (D : Nat) (c : Code) (pre : List (Nat × List Int)) (W : World), w.heap.size ≤ D → Sp pre → Ix c pre W → W.heap[D]? = some (.deferred (some [])) → c.wp P Q { a with defers := { target := .collected D, args := #[] } :: a.defers } W) :
    (Code.rangeFunc g #[p, q] assign body).wp P Q a w :=
  (wpIn_wide (n := 5)).1 (wpIn_rangeX rfl (by omega) hg trivial eg hseq hKt hKb hb0 (fun _ => rfl) I Ix hI hIx h0 (fun e => by cases e)
    (fun pre x a' W => ∃ B9, a' = { tmps := (((a.tmps.setIfInBounds p (.int .i64 (x.1 : Int))).setIfInBounds q (.agg (ua x.2))).setIfInBounds s (.int .i64 (x.1 : Int))).setIfInBounds r (.pointer (some ⟨B9, 0, none⟩)), defers := [] } ∧ BlkU W B9 T x.2 ∧ X pre x)
    (fun pre x a' _ A B row ⟨B9, h1, h2, h3⟩ hg hr => ⟨B9, h1, (hg.block B9 (Blk.lt h2) (fun e => by
      obtain ⟨_, o, ho, hc⟩ := hr B9 e.symm
      have h2' : A.heap[B9]? = _ := h2
      rw [h2'] at ho
      cases ho
      cases hc)).trans h2, h3⟩)
    (fun l pre x W K hi hx hK => by
      have e : ((#[p, q].zip #[Value.int .i64 (x.1 : Int), Value.agg (ua x.2)]).foldl (fun t (p, v) => t.setIfInBounds p v) a.tmps) = (a.tmps.setIfInBounds p (.int .i64 (x.1 : Int))).setIfInBounds q (.agg (ua x.2)) := by simp
      rw [e]
      exact hassign l x W K (fun B9 W' hb hblk => hK _ _ ((keeps_of_below hb).from _) (hKl _ _ _ hi hb) (hI _ _ _ none hi (grownD hb) (fun r e => by cases e)) ⟨B9, rfl, hblk, hx⟩) (hX16 _ _ hx))
    (fun l pre x a' W hi ⟨B9, e, hb, hx⟩ => by subst e; exact hbody l pre x B9 W hi hx hb) hdone (fun D c pre W h1 h2 h3 h4 => wpIn_wide.2 (hstop D c pre W h1 h2 h3 h4)))
theorem wpListIn_storeA {F : Fence} {n : Nat} {w : World} {ops : Array Oper} {rest : List Oper} {o : Oper} {a : Act} {Q : Exit → Act → World → Prop} (hg : o.guard = none) (T : TypeId) (x y : Operand) (hop : o.op = Op.store T x y) (B : Nat) (l old : List Int)
    (hx : a.eval x = .pointer (some ⟨B, 0, none⟩)) (hy : a.eval y = .agg (ia l)) (hB : BlkI w B T old) (hlo : old.length = l.length) (hi : (Tryd.prog.info? T).map (·.size) = some l.length)
    (hK : wpListIn F n Tryd.prog ops Q rest (a.put o.dst undef) (w.setRow B (ia l))) : wpListIn F n Tryd.prog ops Q (o :: rest) a w := by
  refine wpListIn_plain hg fun K' hK' => ?_
  unfold Oper.wpIn
  refine ⟨by simp [Oper.about, hop], ?_⟩
  rw [Oper.semAt_plain F _ _ (by rw [hop]; intro c hc'; cases hc')]
  simp only [execOp, hop, hx, hy, Instr.storeAt, Instr.sureAddr, Sem.run_bind, Sem.run_pure, Result.andThen_ok, run_storeVar_row (P := Tryd.prog) w B T T (ia old) (ia l) hB (by rw [hi, ia_size]) (by rw [ia_size, ia_size, hlo]) (ia_one l)]
  exact hK' _ _ hK
theorem keeps_setRow {W : World} {B : Nat} {T : TypeId} {old : List Value} (h : Blk W B T old) (cs : Array Value) : KeepsOthers W (W.setRow B cs) :=
  ⟨by simp [World.setRow], fun k o hk ho => by
    by_cases e : k = B
    · subst e
      rw [h] at hk
      cases hk
      cases ho
    · exact (setRow_other W B k cs e).trans hk⟩
theorem own_other {w w' : World} {row : Option Nat} {o : Obj} {base e size n : Nat} {v : Value} {xs : List Value} (h : w.ownsRow base e size v n xs) (hg : (w.alloc o).grownBy w' row) (hne : ∀ b, v.ownBlock = some b → row ≠ some b) : w'.ownsRow base e size v n xs := by
  obtain ⟨h1, h2⟩ := World.ownsRow.alloc h o
  refine ⟨h1, ?_⟩
  rcases h2 with h2 | ⟨g, cap, cur, rfl, hg', hh, r⟩
  · exact .inl h2
  · exact .inr ⟨g, cap, cur, rfl, hg', (hg.block g (Array.getElem?_eq_some_iff.1 hh).1 (fun e => hne g rfl e.symm)).trans hh, r⟩
theorem apart_of {w W : World} {base e size n : Nat} {v u u' : Value} {xs : List Value} (hv : w.ownsRow base e size v n xs) (hne : ∀ b, v.ownBlock = some b → u.ownBlock ≠ some b) (hu : u'.ownBlock = u.ownBlock ∨ u'.ownBlock = some W.heap.size) (hw : w.heap.size ≤ W.heap.size) : ∀ b, v.ownBlock = some b → u'.ownBlock ≠ some b := fun b hb he => by
  rcases hu with h | h
  · exact hne b hb (h ▸ he)
  · have := (World.ownsRow.lt hv b hb).2
    rw [h] at he
    cases he
    omega

theorem zrow_below (w : World) (T : TypeId) (c c' : Array Value) : Below w.heap.size w ((w.alloc (.cells c T)).setRow w.heap.size c') := below_rowA (below_new w _) (Nat.le_refl _) c'
theorem zrow_blk (w : World) (T : TypeId) (z l : List Int) : BlkI ((w.alloc (.cells (ia z) T)).setRow w.heap.size (ia l)) w.heap.size T l := BlkI.setRowA (BlkI.new w T z) l
theorem wpListIn_storeU {F : Fence} {n : Nat} {w : World} {ops : Array Oper} {rest : List Oper} {o : Oper} {a : Act} {Q : Exit → Act → World → Prop} (hg : o.guard = none) (T : TypeId) (x y : Operand) (hop : o.op = Op.store T x y) (B : Nat) (l old : List Int)
    (hx : a.eval x = .pointer (some ⟨B, 0, none⟩)) (hy : a.eval y = .agg (ua l)) (hB : BlkU w B T old) (hlo : old.length = l.length) (hi : (Tryd.prog.info? T).map (·.size) = some l.length)
    (hK : wpListIn F n Tryd.prog ops Q rest (a.put o.dst undef) (w.setRow B (ua l))) : wpListIn F n Tryd.prog ops Q (o :: rest) a w := by
  refine wpListIn_plain hg fun K' hK' => ?_
  unfold Oper.wpIn
  refine ⟨by simp [Oper.about, hop], ?_⟩
  rw [Oper.semAt_plain F _ _ (by rw [hop]; intro c hc'; cases hc')]
  simp only [execOp, hop, hx, hy, Instr.storeAt, Instr.sureAddr, Sem.run_bind, Sem.run_pure, Result.andThen_ok, run_storeVar_row (P := Tryd.prog) w B T T (ua old) (ua l) hB (by rw [hi, ua_size]) (by rw [ua_size, ua_size, hlo]) (ua_one l)]
  exact hK' _ _ hK
theorem Tryd.infoTg3 : (Tryd.prog.info? 40).map (fun i => (i.zero, i.size, i.bytes)) = some (some (.agg #[.int .i64 0, .int .i64 0, .int .i64 0, .int .i64 0, .int .i64 0, .int .i64 0]), 6, 48) := by kernel_rfl
theorem Tryd.infoI3 : (Tryd.prog.info? 3).map (fun i => (i.zero, i.size, i.bytes)) = some (some (.int .i64 0), 1, 8) := by kernel_rfl
def OwT (w : World) (base : Nat) (v : Value) (l : List Tg) : Prop := w.ownsRow base 40 6 v l.length (l.flatMap tgV)
def OwN (w : World) (base : Nat) (v : Value) (l : List Int) : Prop := w.ownsRow base 3 1 v l.length (l.map (Value.int .i64))
def ApV (a b : Value) : Prop := ∀ g, a.ownBlock = some g → b.ownBlock ≠ some g
theorem own_one {w : World} {base e size n : Nat} {v : Value} {xs : List Value} (h : w.ownsRow base e size v n xs) : v.oneCell' = true := by
  rcases h.2 with ⟨h, _⟩ | ⟨g, cap, cur, h, _⟩ <;> rw [h] <;> rfl
theorem ownsRow_cells {W : World} {base : Nat} {e : TypeId} {size : Nat} {v : Value} {k : Nat} {xs : List Value} (h : W.ownsRow base e size v k xs) {j : Nat} {o : Obj} (hj : v.ownBlock = some j) (ho : W.heap[j]? = some o) : o.isCells = true := by
  rcases h.2 with ⟨rfl, _⟩ | ⟨g, cap, cur, rfl, _, hg, _⟩
  · simp [Value.ownBlock] at hj
  · obtain rfl : g = j := by simpa [Value.ownBlock] using hj
    have := hg.symm.trans ho
    cases this
    rfl
theorem own_setCellR {w : World} {base e size n B j : Nat} {v x : Value} {xs : List Value} (h : w.ownsRow base e size v n xs) (hB : B < base) : (w.setCell ⟨B, j, none⟩ x).ownsRow base e size v n xs := by
  refine ⟨h.1, ?_⟩
  rcases h.2 with h1 | ⟨g, cap, cur, hv, hg, hh, hr⟩
  · exact .inl h1
  · exact .inr ⟨g, cap, cur, hv, hg, (Below.heap_setCell _ _ _ _ (show g ≠ B by omega)).trans hh, hr⟩
theorem own_slice {w : World} {base e size n : Nat} {v : Value} {xs : List Value} (h : w.ownsRow base e size v n xs) : ∃ a c, v = .slice a n c := by
  rcases h.2 with ⟨h, hn⟩ | ⟨g, cap, cur, h, _⟩
  · exact ⟨none, 0, by rw [h, hn]⟩
  · exact ⟨_, _, h⟩
theorem sc_one {w : World} {B : Nat} {T : TypeId} {vo v' : Value} (h : Blk w B T [vo]) (h1 : v'.oneCell' = true) : Sem.run Tryd.prog (storeCells ⟨B, 0, none⟩ [v']) w = .ok () (w.setRow B #[v']) := by
  have := run_storeCells_from (P := Tryd.prog) B T [v'] 0 #[vo] w h rfl (by simp [h1])
  simpa using this
theorem own_setRowB {w : World} {base e size n B : Nat} {v : Value} {xs : List Value} (h : w.ownsRow base e size v n xs) (hB : B < base) (cs : Array Value) : (w.setRow B cs).ownsRow base e size v n xs := by
  obtain ⟨h1, h2⟩ := h
  refine ⟨h1, ?_⟩
  rcases h2 with h2 | ⟨g, cap, cur, hv, hb, hh, r⟩
  · exact .inl h2
  · exact .inr ⟨g, cap, cur, hv, hb, (setRow_other w B g cs (by omega)).trans hh, r⟩
theorem blk_setRow1 {w : World} {B : Nat} {T : TypeId} {vs : List Value} (h : Blk w B T vs) (v : Value) : Blk (w.setRow B #[v]) B T [v] := setRow_heap w B _ #[v] T (0, 0) h
theorem OwT.carry {w w' : World} {base : Nat} {v : Value} {l : List Tg} (h : OwT w base v l) (hb : Below w.heap.size w w') : OwT w' base v l := own_below h hb
theorem OwN.carry {w w' : World} {base : Nat} {v : Value} {l : List Int} (h : OwN w base v l) (hb : Below w.heap.size w w') : OwN w' base v l := own_below h hb
/-- the block of a loop's deferred calls. -/
def DefK (w : World) (D : Nat) : Prop := w.heap[D]? = some (.deferred (some []))
theorem DefK.carry {w w' : World} {D : Nat} (h : DefK w D) (hb : Below w.heap.size w w') : DefK w' D := (hb.block D (Array.getElem?_eq_some_iff.1 h).1).trans h
theorem own_defer {w : World} {base e size n D : Nat} {v : Value} {xs : List Value} (h : w.ownsRow base e size v n xs) (hD : DefK w D) (o : Obj) : (w.putObj D o).ownsRow base e size v n xs := by
  obtain ⟨h1, h2⟩ := h
  refine ⟨h1, ?_⟩
  rcases h2 with h2 | ⟨g, cap, cur, hv, hb, hh, r⟩
  · exact .inl h2
  · refine .inr ⟨g, cap, cur, hv, hb, (World.putObj_heap_other (fun e => ?_)).trans hh, r⟩
    unfold DefK at hD
    first | rw [e, hh] at hD | rw [← e, hh] at hD
    cases hD
theorem cells_from {A B : World} {row : Option Nat} {H k : Nat} {cs : Array Value} {T : TypeId} {z : Nat × Nat} (h : A.heap[k]? = some (.cells cs T z)) (hg : A.grownBy B row) (hr : ∀ r, row = some r → H ≤ r ∧ ∃ o : Obj, A.heap[r]? = some o ∧ o.isCells = false) : B.heap[k]? = some (.cells cs T z) :=
  (hg.block k (Array.getElem?_eq_some_iff.1 h).1 (fun e => by
    obtain ⟨_, o, ho, hc⟩ := hr k e.symm
    rw [h] at ho
    cases ho
    cases hc)).trans h
theorem own_from {A B : World} {row : Option Nat} {H base e size n : Nat} {v : Value} {xs : List Value} (h : A.ownsRow base e size v n xs) (hg : A.grownBy B row) (hr : ∀ r, row = some r → H ≤ r ∧ ∃ o : Obj, A.heap[r]? = some o ∧ o.isCells = false) : B.ownsRow base e size v n xs := by
  obtain ⟨h1, h2⟩ := h
  refine ⟨h1, ?_⟩
  rcases h2 with h2 | ⟨g, cap, cur, hv, hb, hh, r⟩
  · exact .inl h2
  · exact .inr ⟨g, cap, cur, hv, hb, cells_from hh hg hr, r⟩
/-- the state of Received's loop. -/
def RcI (w : World) (B6 B7 H : Nat) (lo : List Tg) (lb : List Int) (W : World) : Prop :=
  ∃ vo vb, Blk W B6 47 [vo] ∧ Blk W B7 29 [vb] ∧ OwT W H vo lo ∧ OwN W H vb lb ∧ ApV vo vb ∧ Below w.heap.size w W ∧ H ≤ W.heap.size
theorem RcI.from {w : World} {B6 B7 H : Nat} {lo : List Tg} {lb : List Int} {A B : World} {row : Option Nat} (hw : w.heap.size ≤ H) (h : RcI w B6 B7 H lo lb A) (hg : A.grownBy B row) (hr : ∀ r, row = some r → H ≤ r ∧ ∃ o : Obj, A.heap[r]? = some o ∧ o.isCells = false) : RcI w B6 B7 H lo lb B := by
  obtain ⟨vo, vb, h6, h7, ho, hb, hap, hB, hs⟩ := h
  exact ⟨vo, vb, cells_from h6 hg hr, cells_from h7 hg hr, own_from ho hg hr, own_from hb hg hr, hap, hB.grown hg hB.size (fun r e => by have := (hr r e).1; omega), Nat.le_trans hs hg.size⟩
def fsT (cs : List Int) (n : Nat) : List (List Int) := (List.range n).map (blkAt cs)
def rcTn (cs : List Int) (n : Nat) : List Tg := rcT (fsT cs n)
def rcBn (cs : List Int) (n : Nat) : List Int := ((List.range n).filter fun i => !dcOk (blkAt cs i)).map fun (i : Nat) => (i : Int)
theorem rcTn_succ (cs : List Int) (n : Nat) : rcTn cs (n + 1) = rcTn cs n ++ (if dcOk (blkAt cs n) = true then [dcT (blkAt cs n)] else []) := by
  unfold rcTn rcT fsT
  rw [List.range_succ, List.map_append, List.filter_append, List.map_append]
  by_cases h : dcOk (blkAt cs n) = true
  · rw [if_pos h]; simp [h]
  · rw [if_neg h]; simp [h]
theorem rcBn_succ (cs : List Int) (n : Nat) : rcBn cs (n + 1) = rcBn cs n ++ (if dcOk (blkAt cs n) = true then [] else [(n : Int)]) := by
  unfold rcBn
  rw [List.range_succ, List.filter_append, List.map_append]
  by_cases h : dcOk (blkAt cs n) = true
  · rw [if_pos h]; simp [h]
  · rw [if_neg h]; simp [h]
theorem rcTn_len (cs : List Int) (n : Nat) : (rcTn cs n).length ≤ n := by
  unfold rcTn rcT fsT
  rw [List.length_map]
  refine Nat.le_trans (List.length_filter_le _ _) ?_
  simp
theorem rcBn_len (cs : List Int) (n : Nat) : (rcBn cs n).length ≤ n := by
  unfold rcBn
  rw [List.length_map]
  refine Nat.le_trans (List.length_filter_le _ _) ?_
  simp
theorem blkAt_byte {cs : List Int} (h : ByteL cs) (k : Nat) (hk : 16 * k + 16 ≤ cs.length) : ByteL (blkAt cs k) := by
  intro b hb
  obtain ⟨j, hj, rfl⟩ := List.mem_map.1 hb
  rw [List.mem_range] at hj
  refine h _ ?_
  rw [List.getElem?_eq_getElem (by omega)]
  exact List.getElem_mem _
attribute [local go_sem] Oper.semAt_some
set_option maxRecDepth 100000 in
set_option maxHeartbeats 8000000 in
theorem Received_any (v : Value) (cs : List Int) (N : Nat) (w : World) (hcs : cs.length = 16 * N) (hN : N ≤ 1024) (hb : ByteL cs) (hv : Byt w v cs) :
    Calls Tryd.prog 8 #[v] w fun e w' => (∃ u1 u2 H, e = .returned (.tuple #[u1, u2, .int .i64 0]) ∧ OwT w' H u1 (rcTn cs N) ∧ OwN w' H u2 (rcBn cs N)) ∧ Below w.heap.size w w' := by
  obtain ⟨ad, cap, rfl, hcap, hcs0⟩ := hv
  rw [hcs] at hcap hcs0 ⊢
  obtain ⟨bc, off, had, hcell⟩ : ∃ bc off, (0 < N → ad = some ⟨bc, off, none⟩) ∧ ∀ j, j < 16 * N → w.cell? ⟨bc, off + j, none⟩ = some (.int .u8 (cs[j]?.getD 0)) := by
    by_cases h0 : 0 < N
    · obtain ⟨b, o, ha, h⟩ := hcs0 (by omega)
      exact ⟨b, o, fun _ => ha, fun j hj => h j (by omega)⟩
    · exact ⟨0, 0, fun h => by omega, fun j hj => by omega⟩
  have HAD := Lib.hid had
  have HCL := Lib.hid hcell
  have HCS := Lib.hid hcs
  have HBY := Lib.hid hb
  have d1 : ¬ 16384 < 16 * (N : Int) := by omega
  have d2 : (16 * (N : Int)) % 16 = 0 := by omega
  have d3 : Int.tmod (16 * (N : Int)) 16 = 0 := by rw [Int.tmod_eq_emod_of_nonneg (by omega)]; omega
  clear hcs0 had hcell hcs hb
  refine calls_of_postR Tryd.func8 rfl ?_
  simp only [Tryd.ntmps8, List.size_toArray, List.length_cons, List.length_nil, Nat.reduceAdd, Nat.reduceSub, Array.replicate_succ, Array.replicate_zero, List.push_toArray, List.append_toArray, List.nil_append, List.cons_append]
  go_wp2_with fail
  go_wp2_with fail
  refine (whenP_any _ _ _).mono ?_
  rintro e w' ⟨rfl, rfl⟩
  go_wp2_with fail
  go_wp2_with fail
  refine (whenP_any _ _ _).mono ?_
  rintro e w' ⟨rfl, rfl⟩
  go_wp2_with fail
  have t2 := fun a b => firstP_any (.slice (some ⟨w.heap.size, 0, none⟩) 2 2) [a, b] (w.alloc (Obj.cells #[Value.int IntKind.i64 a, Value.int IntKind.i64 b] 44)) (by simp [maxLen]) (Ints.lit w 44 [a, b] 2 rfl)
  refine (t2 _ _).mono ?_
  rintro e w9 ⟨rfl, hw9⟩
  have hB : Below w.heap.size w w9 := by rw [← hw9]; exact below_new _ _
  rw [show firstE [whenE false 26, whenE false 28] = 0 from rfl]
  clear hw9 t2 d1 d2 d3
  go_upto_region 6 with fail
  obtain ⟨W6, hW6⟩ : ∃ v, v = World.alloc w9 (Obj.cells #[.slice none 0 0] 47) := ⟨_, rfl⟩
  have kW6 : Below w9.heap.size w9 W6 := by rw [hW6]; exact below_new _ _
  have iW6 : Blk W6 (w9.heap.size) 47 [.slice none 0 0] := by rw [hW6]; exact Blk.new _ _ _
  have sW6 : W6.heap.size = w9.heap.size + 1 := by rw [hW6]; simp
  rw [← hW6]
  clear hW6
  obtain ⟨W7, hW7⟩ : ∃ v, v = World.alloc W6 (Obj.cells #[.slice none 0 0] 29) := ⟨_, rfl⟩
  have kW7 : Below W6.heap.size W6 W7 := by rw [hW7]; exact below_new _ _
  have iW7 : Blk W7 (w9.heap.size + 1) 29 [.slice none 0 0] := by rw [hW7, ← sW6]; exact Blk.new _ _ _
  have sW7 : W7.heap.size = w9.heap.size + 1 + 1 := by rw [hW7]; simp [sW6]
  rw [← hW7]
  clear hW7
  replace iW6 := Blk.carry iW6 kW7
  have hs9 := hB.size
  replace hB := bthen hB (bthen kW6 kW7)
  obtain ⟨B6, hB6⟩ : ∃ B, B = w9.heap.size := ⟨_, rfl⟩
  rw [← hB6] at iW6 iW7 ⊢
  have n67 : B6 + 1 < W7.heap.size ∧ w.heap.size ≤ B6 := by omega
  clear kW6 kW7 sW6 sW7 hB6 hs9
  go_wp2_with fail
  refine (blocks_any _ _ _ W7).mono ?_
  rintro e W8 ⟨rfl, hw8⟩
  have kW8 : Below W7.heap.size W7 W8 := by rw [← hw8]; exact below_new _ _
  have iX : Blk W8 W7.heap.size 28 [.slice ad (16 * N) cap] := by rw [← hw8]; exact Blk.new _ _ _
  have s8 : W8.heap.size = W7.heap.size + 1 := by rw [← hw8]; simp
  replace iW6 := Blk.carry iW6 kW8
  replace iW7 := Blk.carry iW7 kW8
  replace hB := bthen hB kW8
  obtain ⟨bx, hbx⟩ : ∃ B, B = W7.heap.size := ⟨_, rfl⟩
  rw [← hbx] at iX s8 n67 ⊢
  clear kW8 hw8 hbx
  have hbcl : 0 < N → bc < W8.heap.size := fun h => by have h9 := lt_of_cellSome (HCL.out 0 (by omega)); have := hB.size; omega
  have hc8 : ∀ j, j < 16 * N → W8.cell? ⟨bc, off + j, none⟩ = some (.int .u8 (cs[j]?.getD 0)) := fun j hj => cellb (HCL.out j hj) hB
  obtain ⟨bc', hbc', hbcl', hbn', hc8'⟩ : ∃ b, (0 < N → ad = some ⟨b, off, none⟩) ∧ b < W8.heap.size ∧ (b ≠ B6 ∧ b ≠ B6 + 1) ∧ ∀ j, j < 16 * N → W8.cell? ⟨b, off + j, none⟩ = some (.int .u8 (cs[j]?.getD 0)) := by
    by_cases h0 : 0 < N
    · exact ⟨bc, HAD.out, hbcl h0, (by have h9 := lt_of_cellSome (HCL.out 0 (by omega)); omega), hc8⟩
    · exact ⟨bx, fun h => by omega, by omega, by omega, fun j hj => by omega⟩
  have HSEQ := Lib.hid (blocks_seq 4 (by omega) bx bc' off cap N ad cs W8 HCS.out hN hcap hbc' iX hc8')
  clear hbcl hc8 hc8' hbc' HAD HCL iX
  go_wp2_with fail
  refine wp_range2 (s := 8) (r := 9) (T := 43) (gf := 33) (lb := #[.pointer (some ⟨bx, 0, none⟩)]) (X := fun pre x => x.1 = pre.length ∧ x.2 = blkAt cs pre.length ∧ pre.length < N) rfl (enters_of Tryd.func33 (by kernel_rfl) rfl)
    HSEQ.out KpB.trans (fun W l o o' hl h h1 _ => ⟨World.putObj_heap_other (by omega), World.putObj_heap_other (by omega)⟩) (Below.refl _ _)
    (fun pre W => RcI w B6 (B6 + 1) W8.heap.size (rcTn cs pre.length) (rcBn cs pre.length) W)
    (fun _ _ _ => False)
    (fun pre A B row hs hg hr => RcI.from (by omega) hs hg hr)
    (fun _ _ _ _ _ hs _ _ => hs)
    ⟨_, _, iW6, iW7, World.ownsRow_nil _ _ _ _, World.ownsRow_nil _ _ _ _, fun g h => by simp [Value.ownBlock] at h, hB, Nat.le_refl _⟩
    (fun pre W W' hI hb => by obtain ⟨vo, vb, _, _, _, _, _, _, hs⟩ := hI; exact ⟨hb.block _ (by omega), hb.block _ (by omega)⟩)
    ?assign (fun pre x hx => by rw [hx.2.1]; exact blkAt_len _ _) ?body ?done ?stop
  case assign =>
    intro l x W K hK h16
    have hz : BlkU (W.alloc (.cells (ua (List.replicate 16 0)) 43)) W.heap.size 43 (List.replicate 16 0) := Blk.new W _ _
    have hkk := hK W.heap.size ((W.alloc (.cells (ua (List.replicate 16 0)) 43)).setRow W.heap.size (ua x.2)) (below_rowA (below_new W _) (Nat.le_refl _) _) (BlkU.setRowU hz x.2)
    gi_wp2_with (refine wpListIn_storeU rfl _ _ _ rfl W.heap.size x.2 (List.replicate 16 0) rfl rfl hz (by rw [h16]; rfl) (by rw [h16]; exact Tryd.infoA16) ?_)
    exact hkk
  case body =>
    rintro ll pre ⟨xk, xs⟩ B9 W ⟨vo, vb, h6, h7, ho, hb, hap, hB, hsW⟩ ⟨hx1, hx2, hlen⟩ hb9
    simp only at hx1 hx2
    subst hx1 hx2
    simp only [List.setIfInBounds_toArray, List.set_cons_succ, List.set_cons_zero]
    have hwf : ∀ f, (Fence.wide.inRound ll).fn f := fun _ => trivial
    have hld := load16 (blkAt_len cs pre.length) hb9
    have TD := Lib.hid (Decode_any (blkAt cs pre.length) (blkAt_len _ _) (blkAt_byte HBY.out _ (by rw [HCS.out]; omega)) W)
    have hT := rcTn_succ cs pre.length
    have hBn := rcBn_succ cs pre.length
    have htl := rcTn_len cs pre.length
    have hbl := rcBn_len cs pre.length
    have hdE := dcE_ok (blkAt cs pre.length)
    have hdR : dcR (blkAt cs pre.length) = if dcOk (blkAt cs pre.length) = true then dcT (blkAt cs pre.length) else tgZ := rfl
    generalize blkAt cs pre.length = F at *
    generalize dcE F = E at TD hdE
    by_cases hE : E = 0
    · have hok : dcOk F = true := by rw [← hdE]; exact hE
      rw [if_pos hok] at hT hBn hdR
      rw [hdR] at TD
      subst hE
      clear hdE hdR hok
      generalize dcT F = t at TD hT
      obtain ⟨ta, tb, tc, td, te, tf⟩ := t
      gi_wp2_with (refine wpListIn_load rfl _ _ rfl hld ?_)
      refine (((callsIn_wide (n := 2)).2 TD.out).inRound ll).mono ?_
      rintro e W1 ⟨rfl, hb1⟩
      clear TD hld
      have hz6 : BlkI (W1.alloc (.cells (ia (List.replicate 6 0)) 40)) W1.heap.size 40 (List.replicate 6 0) := Blk.new W1 _ _
      gi_upto_region 10 with (refine wpListIn_storeA rfl _ _ _ rfl W1.heap.size (tgI (ta, tb, tc, td, te, tf)) (List.replicate 6 0) rfl rfl hz6 rfl Tryd.infoTg ?_)
      obtain ⟨W2, hW2⟩ : ∃ v, v = World.setRow (World.alloc W1 (Obj.cells #[.int .i64 0, .int .i64 0, .int .i64 0, .int .i64 0, .int .i64 0, .int .i64 0] 40)) W1.heap.size (ia (tgI (ta, tb, tc, td, te, tf))) := ⟨_, rfl⟩
      have kW2 : Below W1.heap.size W1 W2 := by rw [hW2]; exact zrow_below _ _ _ _
      have iW2 : BlkI W2 W1.heap.size 40 (tgI (ta, tb, tc, td, te, tf)) := by rw [hW2]; exact zrow_blk W1 _ (List.replicate 6 0) _
      rw [← hW2]
      clear hW2
      have hb2 := bthen hb1 kW2
      have g10 : BlkI W2 W1.heap.size 40 [ta, tb, tc, td, te, tf] := iW2
      obtain ⟨B10, hB10⟩ : ∃ B, B = W1.heap.size := ⟨_, rfl⟩
      rw [← hB10] at g10 ⊢
      have n10 : W8.heap.size ≤ B10 := by have := hb1.size; omega
      clear iW2 hz6 kW2 hb1 hB10
      have e6 := (Blk.carry h6 hb2).cell (j := 0) (v := vo) rfl
      have f6 := (Blk.carry h6 hb2).frozen 0
      have y0 := BlkI.cell (l := [ta, tb, tc, td, te, tf]) g10 (j := 0) (by simp)
      have y1 := BlkI.cell (l := [ta, tb, tc, td, te, tf]) g10 (j := 1) (by simp)
      have y2 := BlkI.cell (l := [ta, tb, tc, td, te, tf]) g10 (j := 2) (by simp)
      have y3 := BlkI.cell (l := [ta, tb, tc, td, te, tf]) g10 (j := 3) (by simp)
      have y4 := BlkI.cell (l := [ta, tb, tc, td, te, tf]) g10 (j := 4) (by simp)
      have y5 := BlkI.cell (l := [ta, tb, tc, td, te, tf]) g10 (j := 5) (by simp)
      simp only [List.getElem?_cons_zero, List.getElem?_cons_succ, Option.getD_some] at y0 y1 y2 y3 y4 y5
      have ho2 := own_below ho hb2
      have hb3 := own_below hb hb2
      have hs2 := hb2.size
      have hln : ∀ j u, (tgV (ta, tb, tc, td, te, tf))[j]? = some u → (W2.alloc (.cells #[.int .i64 ta, .int .i64 tb, .int .i64 tc, .int .i64 td, .int .i64 te, .int .i64 tf] 40)).cell? ((⟨W2.heap.size, 0, none⟩ : Addr).add j) = some u := fun j u hj => by
        rw [addr_add, Nat.zero_add]
        exact Blk.cell (Blk.new W2 40 (tgV (ta, tb, tc, td, te, tf))) hj
      obtain ⟨i0, hi, hz0, hz1, hz2⟩ := info_parts Tryd.infoTg3
      gi_wp2_with (gi_at_builtin; refine wpListIn_append_own_at _ rfl (.tmp 41) (.tmp 43) 47 rfl W8.heap.size 40 i0 _ 6 48 Tryd.underlying47 hi hz0 hz1 hz2 rfl (by decide) _ _ _ rfl (ho2.alloc _) ⟨W2.heap.size, 0, none⟩ 1 1 (tgV (ta, tb, tc, td, te, tf)) rfl rfl hln (by simp [tgV, Value.oneCell']) (by unfold maxLen; omega) (by omega) (by simp; omega) ?_; intro v' w6 hown' hgrow hnil hat; have hB26 : Below W8.heap.size W2 w6 := below_ownG (by omega) ho2 hgrow; have b6 := Blk.below (Blk.carry h6 hb2) hB26 (by omega); have b7 := Blk.below (Blk.carry h7 hb2) hB26 (by omega); have e7 := b6.cell (j := 0) (v := vo) rfl; have f7 := b6.frozen 0; obtain ⟨va, vc, rfl⟩ := own_slice hown')
      have hk6 : KeepsOthers W2 w6 := (KeepsOthers.alloc W2 _).trans (KeepsOthers.of_grownBy hgrow (fun j o e ho => ownsRow_cells (ho2.alloc _) e ho))
      have q1 := own_setCellR (j := 0) (x := .slice va ((rcTn cs pre.length).length + 1) vc) hown' (by omega : B6 < W8.heap.size)
      have q2 := own_setCellR (j := 0) (x := .slice va ((rcTn cs pre.length).length + 1) vc) (own_other hb3 hgrow (fun b e h => hap b h e)) (by omega : B6 < W8.heap.size)
      have q3 : ApV (.slice va ((rcTn cs pre.length).length + 1) vc) vb := fun g h1 h2 => by
        rcases hat with h | h
        · exact hap g (h ▸ h1) h2
        · have := (World.ownsRow.lt hb3 g h2).2
          rw [h] at h1
          cases h1
          rw [World.size_alloc] at this
          omega
      have hB9 : Below w.heap.size w (w6.setCell ⟨B6, 0, none⟩ (.slice va ((rcTn cs pre.length).length + 1) vc)) := ((bthen hB hb2).trans (hB26.mono (by omega))).setCell (by simp; omega) _
      refine ⟨(((keeps_of_below hb2).trans hk6).trans (KeepsOthers.setCell _ _ _)).from _, ⟨?_, ?_⟩, ?_⟩
      · exact (Below.heap_setCell _ _ _ _ (by simp; omega)).trans ((hB26.block bc' (by omega)).trans (hb2.block bc' (by omega)))
      · exact (Below.heap_setCell _ _ _ _ (by simp; omega)).trans ((hB26.block bx (by omega)).trans (hb2.block bx (by omega)))
      · show RcI w B6 (B6 + 1) W8.heap.size (rcTn cs (pre ++ [(pre.length, F)]).length) (rcBn cs (pre ++ [(pre.length, F)]).length) _
        rw [show (pre ++ [(pre.length, F)]).length = pre.length + 1 by simp, hT, hBn, List.append_nil]
        refine ⟨_, vb, b6.set 0 _, b7.other (by omega) _, ?_, q2, q3, hB9, ?_⟩
        · unfold OwT
          rw [List.length_append, List.flatMap_append]
          exact q1
        · have := hB26.size
          simp
          omega
    · have hok : ¬ dcOk F = true := by rw [← hdE]; exact hE
      rw [if_neg hok] at hT hBn hdR
      rw [hdR] at TD
      have hz : (E != 0) = true := by rw [bne_iff_ne]; exact hE
      clear hdE hdR hok hE
      gi_wp2_with (refine wpListIn_load rfl _ _ rfl hld ?_)
      refine (((callsIn_wide (n := 2)).2 TD.out).inRound ll).mono ?_
      rintro e W1 ⟨rfl, hb1⟩
      clear TD hld
      have hz6 : BlkI (W1.alloc (.cells (ia (List.replicate 6 0)) 40)) W1.heap.size 40 (List.replicate 6 0) := Blk.new W1 _ _
      gi_upto_region 10 with (refine wpListIn_storeA rfl _ _ _ rfl W1.heap.size (tgI tgZ) (List.replicate 6 0) rfl rfl hz6 rfl Tryd.infoTg ?_)
      obtain ⟨W2, hW2⟩ : ∃ v, v = World.setRow (World.alloc W1 (Obj.cells #[.int .i64 0, .int .i64 0, .int .i64 0, .int .i64 0, .int .i64 0, .int .i64 0] 40)) W1.heap.size (ia (tgI tgZ)) := ⟨_, rfl⟩
      have kW2 : Below W1.heap.size W1 W2 := by rw [hW2]; exact zrow_below _ _ _ _
      have iW2 : BlkI W2 W1.heap.size 40 (tgI tgZ) := by rw [hW2]; exact zrow_blk W1 _ (List.replicate 6 0) _
      rw [← hW2]
      clear hW2
      have hb2 := bthen hb1 kW2
      clear iW2 hz6 kW2
      have e6 := (Blk.carry h7 hb2).cell (j := 0) (v := vb) rfl
      have f6 := (Blk.carry h7 hb2).frozen 0
      have ho2 := own_below ho hb2
      have hb3 := own_below hb hb2
      have hs2 := hb2.size
      obtain ⟨i0, hi, hz0, hz1, hz2⟩ := info_parts Tryd.infoI3
      gi_wp2_with (gi_at_builtin; refine wpListIn_append_own_at _ rfl (.tmp 37) (.tmp 39) 29 rfl W8.heap.size 3 i0 _ 1 8 Tryd.underlying29 hi hz0 hz1 hz2 rfl (by decide) _ _ _ rfl (hb3.alloc _) ⟨W2.heap.size, 0, none⟩ 1 1 [.int .i64 (pre.length : Int)] rfl rfl (cell_one_new _ _ _) (by simp [Value.oneCell']) (by unfold maxLen; omega) (by omega) (by simp; omega) ?_; intro v' w6 hown' hgrow hnil hat; have hB26 : Below W8.heap.size W2 w6 := below_ownG (by omega) hb3 hgrow; have b6 := Blk.below (Blk.carry h6 hb2) hB26 (by omega); have b7 := Blk.below (Blk.carry h7 hb2) hB26 (by omega); have e7 := b7.cell (j := 0) (v := vb) rfl; have f7 := b7.frozen 0; obtain ⟨va, vc, rfl⟩ := own_slice hown')
      have hk6 : KeepsOthers W2 w6 := (KeepsOthers.alloc W2 _).trans (KeepsOthers.of_grownBy hgrow (fun j o e ho => ownsRow_cells (hb3.alloc _) e ho))
      have q1 := own_setCellR (j := 0) (x := .slice va ((rcBn cs pre.length).length + 1) vc) hown' (by omega : B6 + 1 < W8.heap.size)
      have q2 := own_setCellR (j := 0) (x := .slice va ((rcBn cs pre.length).length + 1) vc) (own_other ho2 hgrow (fun b e h => hap b e h)) (by omega : B6 + 1 < W8.heap.size)
      have q3 : ApV vo (.slice va ((rcBn cs pre.length).length + 1) vc) := fun g h1 h2 => by
        rcases hat with h | h
        · exact hap g h1 (h ▸ h2)
        · have := (World.ownsRow.lt ho2 g h1).2
          rw [h] at h2
          cases h2
          rw [World.size_alloc] at this
          omega
      have hB9 : Below w.heap.size w (w6.setCell ⟨B6 + 1, 0, none⟩ (.slice va ((rcBn cs pre.length).length + 1) vc)) := ((bthen hB hb2).trans (hB26.mono (by omega))).setCell (by simp; omega) _
      refine ⟨(((keeps_of_below hb2).trans hk6).trans (KeepsOthers.setCell _ _ _)).from _, ⟨?_, ?_⟩, ?_⟩
      · exact (Below.heap_setCell _ _ _ _ (by simp; omega)).trans ((hB26.block bc' (by omega)).trans (hb2.block bc' (by omega)))
      · exact (Below.heap_setCell _ _ _ _ (by simp; omega)).trans ((hB26.block bx (by omega)).trans (hb2.block bx (by omega)))
      · show RcI w B6 (B6 + 1) W8.heap.size (rcTn cs (pre ++ [(pre.length, F)]).length) (rcBn cs (pre ++ [(pre.length, F)]).length) _
        rw [show (pre ++ [(pre.length, F)]).length = pre.length + 1 by simp, hT, hBn, List.append_nil]
        refine ⟨vo, _, b6.other (by omega) _, b7.set 0 _, q2, ?_, q3, hB9, ?_⟩
        · unfold OwN
          rw [List.length_append, List.map_append]
          exact q1
        · have := hB26.size
          simp
          omega
  case done =>
    rintro D ys W hD hS ⟨vo, vb, h6, h7, ho, hb, hap, hB, hsW⟩ hK
    rw [hS] at ho hb
    obtain ⟨oa, oc, rfl⟩ := own_slice ho
    obtain ⟨ba, bcc, rfl⟩ := own_slice hb
    have e6 := h6.cell (j := 0) rfl
    have e7 := h7.cell (j := 0) rfl
    have hk : DefK W D := hK
    clear hK hap h6 h7
    go_upto_region 13 with fail
    refine wp_region_E 99 (by kernel_rfl) ?_
    obtain ⟨wz, hwz⟩ : ∃ v, v = W.drew := ⟨_, rfl⟩
    rw [← hwz]
    have hlz : Below W.heap.size W wz := by rw [hwz]; exact (Below.refl _ _).drew
    have hbz := bthen hB hlz
    have e6 := cellb e6 hlz
    have e7 := cellb e7 hlz
    have ho := ho.carry hlz
    have hb := hb.carry hlz
    have hk := hk.carry hlz
    clear hwz hlz
    refine wpAnyE_take (i := 0) (oi := { dst := some 45, op := Op.load 47 (Operand.tmp 6), type := 47, pos := "telegram.go:121", after := #[], guard := none }) (v := ?_) rfl (by kernel_rfl) (by kernel_rfl) (by kernel_rfl) (by kernel_rfl) (fun _ _ _ h => h) (Or.inl ⟨by rfl, ?_⟩) ?_
    rotate_left
    · (intro w hE; have e6 := cellb e6 hE; have e7 := cellb e7 hE; (try dsimp only); go_simp); (try with_reducible rfl)
    try simp only [Act.put, List.setIfInBounds_toArray, List.set_cons_zero, List.set_cons_succ]
    refine wpAnyE_take (i := 1) (oi := { dst := some 46, op := Op.load 29 (Operand.tmp 7), type := 29, pos := "telegram.go:121", after := #[{ on := 2, ground := Ground.gcOnly Departure.lateStores }], guard := none }) (v := ?_) rfl (by kernel_rfl) (by kernel_rfl) (by kernel_rfl) (by kernel_rfl) (fun _ _ _ h => h) (Or.inl ⟨by rfl, ?_⟩) ?_
    rotate_left
    · (intro w hE; have e6 := cellb e6 hE; have e7 := cellb e7 hE; (try dsimp only); go_simp); (try with_reducible rfl)
    try simp only [Act.put, List.setIfInBounds_toArray, List.set_cons_zero, List.set_cons_succ]
    refine wpAnyE_take (i := 2) (oi := { dst := some 2, op := Op.assign (Operand.tmp 45), type := 47, pos := "telegram.go:121", after := #[{ on := 0, ground := Ground.data }, { on := 0, ground := Ground.phase }, { on := 1, ground := Ground.textOnly Departure.lateStores }], guard := none }) (v := ?_) rfl (by kernel_rfl) (by kernel_rfl) (by kernel_rfl) (by kernel_rfl) (fun _ _ _ h => h) (Or.inl ⟨by rfl, ?_⟩) ?_
    rotate_left
    · (intro w hE; have e6 := cellb e6 hE; have e7 := cellb e7 hE; (try dsimp only); go_simp); (try with_reducible rfl)
    try simp only [Act.put, List.setIfInBounds_toArray, List.set_cons_zero, List.set_cons_succ]
    refine wpAnyE_take (i := 3) (oi := { dst := some 3, op := Op.assign (Operand.tmp 46), type := 29, pos := "telegram.go:121", after := #[{ on := 1, ground := Ground.data }, { on := 2, ground := Ground.chain }, { on := 0, ground := Ground.phase }, { on := 1, ground := Ground.phase }, { on := 2, ground := Ground.phase }], guard := none }) (v := ?_) rfl (by kernel_rfl) (by kernel_rfl) (by kernel_rfl) (by kernel_rfl) (fun _ _ _ h => h) (Or.inl ⟨by rfl, ?_⟩) ?_
    rotate_left
    · (intro w hE; have e6 := cellb e6 hE; have e7 := cellb e7 hE; (try dsimp only); go_simp); (try with_reducible rfl)
    try simp only [Act.put, List.setIfInBounds_toArray, List.set_cons_zero, List.set_cons_succ]
    refine wpAnyE_take (i := 4) (oi := { dst := some 4, op := Op.assign (Operand.const (Value.int IntKind.i64 0)), type := 44, pos := "telegram.go:121", after := #[{ on := 3, ground := Ground.chain }, { on := 0, ground := Ground.phase }, { on := 1, ground := Ground.phase }, { on := 2, ground := Ground.phase }, { on := 3, ground := Ground.phase }], guard := none }) (v := ?_) rfl (by kernel_rfl) (by kernel_rfl) (by kernel_rfl) (by kernel_rfl) (fun _ _ _ h => h) (Or.inl ⟨by rfl, ?_⟩) ?_
    rotate_left
    · (intro w hE; have e6 := cellb e6 hE; have e7 := cellb e7 hE; (try dsimp only); go_simp); (try with_reducible rfl)
    try simp only [Act.put, List.setIfInBounds_toArray, List.set_cons_zero, List.set_cons_succ]
    refine wpAnyE_done (by kernel_rfl) (fun wy1 hE => ?_) _
    have hbz1 := bthen hbz hE
    have e6 := cellb e6 hE
    have e7 := cellb e7 hE
    have ho := ho.carry hE
    have hb := hb.carry hE
    have hk := hk.carry hE
    clear hE
    have hB9 := hbz1
    obtain ⟨V, hV⟩ : ∃ v, v = wy1 := ⟨_, rfl⟩
    rw [← hV] at ho hb hk hB9 ⊢
    clear hV
    go_wp2
    refine postR_mark (v := .tuple #[.slice oa (rcTn cs N).length oc, .slice ba (rcBn cs N).length bcc, .int .i64 0]) hk rfl ?_ ⟨⟨_, _, _, rfl, own_defer ho hk _, own_defer hb hk _⟩, ?_⟩
    · simp [results, Tryd.f8, go_sem]
    · exact hB9.trans (belowK_b (w := w) (Nat.le_refl _) _ D _ _ (by omega) hk rfl rfl)
  case stop =>
    rintro D co pre W hD hSp hF hK
    exact hF.elim
end Go.Proofs.YtjmdnolmaofbiaaDoor

/- The package harmonic: the terms of an order and their sum. -/
import Derived.Test.YtpkaoechbmbolaaGreatDoorHarF
namespace Go.Proofs.YtpkaoechbmbolaaGreatDoor
set_option linter.unusedSimpArgs false
set_option linter.unusedVariables false
open Go.RowKit Go.Shelf

attribute [local go_sem] Oper.semAt_some

theorem Tryz.undA12 : Tryz.prog.underlying 72 = some (.array 12 3) := by kernel_rfl
theorem Tryz.infoA12 : (Tryz.prog.info? 72).map (·.size) = some 12 := by kernel_rfl
theorem Tryz.infoInt1 : (Tryz.prog.info? 3).map (·.size) = some 1 := by kernel_rfl
/-- an element of an array of twelve. -/
theorem idx12 {l : List Int} (hl : l.length = 12) {k : Nat} (hk : k < 12) (w : World) : Sem.run Tryz.prog (Instr.index 72 (.agg (ia l)) (.int .i64 k)) w = .ok (.int .i64 (l[k]?.getD 0)) w := by
  obtain ⟨i, hi⟩ : ∃ i, Tryz.prog.info? 3 = some i := by
    cases h : Tryz.prog.info? 3 with
    | none => have := Tryz.infoInt1; rw [h] at this; cases this
    | some i => exact ⟨i, rfl⟩
  have hs : i.size = 1 := by have := Tryz.infoInt1; rw [hi] at this; simpa using this
  simp [Instr.index, asIntOf, run_underlying Tryz.undA12, sizeOf, typeInfo, hi, hs]
  rw [if_pos hk]
  have hg : (ia l)[k]? = some (.int .i64 (l[k]?.getD 0)) := ia_get l k (by omega)
  simp [part, isAgg, run_underlying (show Tryz.prog.underlying 3 = some _ by kernel_rfl), hg]
/-- the load of an array of twelve. -/
theorem load12 {l : List Int} (hl : l.length = 12) {w : World} {B : Nat} (h : BlkI w B 72 l) : Sem.run Tryz.prog (Instr.loadAt 72 (.pointer (some ⟨B, 0, none⟩))) w = .ok (.agg (ia l)) w := by
  have := run_loadVar_row (P := Tryz.prog) w B 72 72 (ia l) (0, 0) _ h Tryz.undA12 rfl (by rw [Tryz.infoA12, ia_size, hl])
  simp only [Instr.loadAt, Instr.sureAddr, Sem.run_bind, Sem.run_pure, Result.andThen_ok, this]

/-- a load of known result, in a fence and without. -/
theorem wpListIn_load {F : Fence} {n : Nat} {P : Program} {w : World} {ops : Array Oper} {rest : List Oper} {o : Oper} {a : Act} {Q : Exit → Act → World → Prop} (hg : o.guard = none) (t : TypeId) (x : Operand) (hop : o.op = Op.load t x) {v : Value}
    (hrun : (Instr.loadAt t (a.eval x)).run P w = .ok v w) (hK : wpListIn F n P ops Q rest (a.put o.dst v) w) : wpListIn F n P ops Q (o :: rest) a w := by
  refine wpListIn_plain hg fun K' hK' => ?_
  unfold Oper.wpIn
  refine ⟨by simp [Oper.about, hop], ?_⟩
  rw [Oper.semAt_plain F _ _ (by rw [hop]; intro c hc'; cases hc')]
  simp [execOp, hop, hrun, Result.andThen]
  exact hK' _ _ hK
theorem wpList_load {P : Program} {w : World} {ops : Array Oper} {rest : List Oper} {o : Oper} {a : Act} {Q : Exit → Act → World → Prop} (hg : o.guard = none) (t : TypeId) (x : Operand) (hop : o.op = Op.load t x) {v : Value}
    (hrun : (Instr.loadAt t (a.eval x)).run P w = .ok v w) (hK : wpList P ops Q rest (a.put o.dst v) w) : wpList P ops Q (o :: rest) a w := by
  refine wpList_plain hg fun K' hK' => ?_
  unfold Oper.wp execOp
  simp only [hop, hrun, Sem.run_bind, Sem.run_pure, Result.andThen_ok]
  exact hK' _ _ hK

theorem terms_any (l : List Int) (h : Int) (w : World) (hl : l.length = 12) :
    Calls Tryz.prog 76 #[.agg (ia l), .int .i64 h] w fun e w' => e = .returned (.func (.func 103) #[] #[.pointer (some ⟨w.heap.size, 0, none⟩), .pointer (some ⟨w.heap.size + 1, 0, none⟩)]) ∧ (w.alloc (.cells (ia l) 72)).alloc (.cells #[.int .i64 h] 3) = w' := by
  go_enter Tryz.func76, Tryz.ntmps76
  go_wp2
  go_ret
  exact ⟨rfl, rfl⟩

/-- a term. -/
def termC (l : List Int) (h : Int) (k : Nat) : Int × Int × Int × Int := turnC (l[k]?.getD 0, 0, 0, 0) (mod12 (wrap64 (-h * k)))
theorem grownB {A B : World} (h : Below A.heap.size A B) : A.grownBy B none := ⟨h.os, h.tape, h.output, h.size, fun k hk _ => h.block k hk⟩

/-- what a round keeps: what lay below n₀, and the two blocks of the iterator's own. -/
def KeepT (n₀ Bp Bh : Nat) (A B : World) : Prop := Below n₀ A B ∧ B.heap[Bp]? = A.heap[Bp]? ∧ B.heap[Bh]? = A.heap[Bh]?
theorem KeepT.refl (n₀ Bp Bh : Nat) (A : World) : KeepT n₀ Bp Bh A A := ⟨Below.refl _ _, rfl, rfl⟩
theorem KeepT.trans {n₀ Bp Bh : Nat} {A B C : World} (h : KeepT n₀ Bp Bh A B) (k : KeepT n₀ Bp Bh B C) : KeepT n₀ Bp Bh A C := ⟨h.1.trans k.1, k.2.1.trans h.2.1, k.2.2.trans h.2.2⟩
theorem KeepT.below {n₀ Bp Bh : Nat} {A B : World} (h : Below A.heap.size A B) (hn : n₀ ≤ A.heap.size) (h1 : Bp < A.heap.size) (h2 : Bh < A.heap.size) : KeepT n₀ Bp Bh A B := ⟨h.mono hn, h.block _ h1, h.block _ h2⟩
theorem KeepT.turn {n₀ Bp Bh : Nat} {w : World} (W : World) (l : Nat) (o o' : Obj) (hn : n₀ ≤ w.heap.size) (h1 : Bp < w.heap.size) (h2 : Bh < w.heap.size) (hl : w.heap.size ≤ l) (h : W.heap[l]? = some o) (hc : o.isCells = false) (hw : o.isWalk = false) : KeepT n₀ Bp Bh W (W.putObj l o') :=
  ⟨belowK_b hn W l o o' hl h hc hw, World.putObj_heap_other (by omega), World.putObj_heap_other (by omega)⟩
theorem KeepT.set {n₀ Bp Bh : Nat} (A : World) (p : Addr) (v : Value) (hn : n₀ ≤ p.block) (h1 : Bp ≠ p.block) (h2 : Bh ≠ p.block) : KeepT n₀ Bp Bh A (A.setCell p v) :=
  ⟨(Below.refl _ _).setCell hn v, Below.heap_setCell _ _ _ _ h1, Below.heap_setCell _ _ _ _ h2⟩

set_option maxRecDepth 100000 in
set_option maxHeartbeats 2000000 in
theorem terms1_in (n : Nat) (hn : 2 ≤ n) (y Bp Bh n₀ : Nat) (l : List Int) (h : Int) (hl : l.length = 12) (hb : -1000 ≤ h ∧ h ≤ 1000) (h3 : 0 < n₀) (J Jx : List (Int × Int × Int × Int) → World → Prop)
    (hJ : ∀ pre A B, J pre A → A.grownBy B none → J pre B)
    (hY : ∀ pre x W, J pre W → pre.length < 12 → YieldAt Fence.wide (n - 1) Tryz.prog y #[cyV x] W fun e W' =>
      (e = .returned (.bool true) ∧ J (pre ++ [x]) W' ∧ KeepT n₀ Bp Bh W W') ∨ (e = .returned (.bool false) ∧ Jx (pre ++ [x]) W'))
    (W : World) (hn₀ : n₀ ≤ W.heap.size) (hp : BlkI W Bp 72 l) (hh : W.cell? ⟨Bh, 0, none⟩ = some (.int .i64 h)) (hw : Powers W) (h00 : J [] W) :
    CallsIn Fence.wide n Tryz.prog 103 #[.func (.yield y) #[] #[], .pointer (some ⟨Bp, 0, none⟩), .pointer (some ⟨Bh, 0, none⟩)] W fun e W' => (∃ v, e = .returned v) ∧
      ((∃ ys, ys = upto (termC l h) 12 ∧ J ys W') ∨ (∃ pre, (∃ k, k ≤ 12 ∧ pre = upto (termC l h) k) ∧ Jx pre W')) := by
  refine callsIn_of_wp Tryz.func103 rfl trivial ?_ rfl
  simp only [Tryz.ntmps103, List.size_toArray, List.length_cons, List.length_nil, Nat.reduceAdd, Nat.reduceSub, Array.replicate_succ, Array.replicate_zero, List.push_toArray, List.append_toArray, List.nil_append, List.cons_append]
  have hld := load12 hl hp
  gi_wp2_with (refine wpListIn_load rfl _ _ rfl hld ?_)
  clear hld
  gi_loopw [7] (fun i wr => ∃ k : Nat, k ≤ 12 ∧ i = .int .i64 k ∧ J (upto (termC l h) k) wr ∧ KeepT n₀ Bp Bh W wr) (fun i _ => 12 - (intOf i).toNat)
  case atStart => exact ⟨0, by omega, rfl, h00, KeepT.refl _ _ _ _⟩
  case round =>
    obtain ⟨k, hk, rfl, hJs, hnx⟩ := hrel
    by_cases hlt : k < 12
    · have hix := fun w => idx12 hl hlt w
      have hcx := (World.cell?_of_block (a := ⟨Bh, 0, none⟩) hnx.2.2).trans hh
      have hd1 : (k : Int) < 12 := by omega
      generalize hgx : l[k]?.getD 0 = x at hix
      have hwf : ∀ f, Fence.wide.fn f := fun _ => trivial
      have hd0 : 1 ≤ n := by omega
      have hT : termC l h k = turnC (x, 0, 0, 0) (mod12 (wrap64 (-h * k))) := by rw [termC, hgx]
      have TT := Lib.hid ((callsIn_wide (n := n - 1)).2 (turned_any x 0 0 0 (wrap64 (-h * k)) (mod12 (wrap64 (-h * k))) wr (fun j hj => (hnx.1.cell (p := ⟨0, j, none⟩) h3).trans (hw j hj)) (mod12_lt _) (mod12_eq _)))
      rw [← hT] at TT
      have HY := Lib.hid (fun wr2 hb2 => hY _ (termC l h k) wr2 (hJ _ _ _ hJs (grownB hb2)) (by rw [upto_length]; exact hlt))
      have HU := Lib.hid (upto_succ (termC l h) k)
      generalize termC l h k = V at TT HY HU
      clear hT hw hY
      gi_wp2_with fail
      refine TT.out.mono ?_
      rintro e w2 ⟨rfl, hb2⟩
      obtain ⟨fn, tmps, assign, body, hy, hR⟩ := HY.out w2 hb2
      clear hix
      gi_wp2_with fail
      refine hR.mono ?_
      rintro e W3 (⟨rfl, hJ3, hk3⟩ | ⟨rfl, hJx3⟩)
      · gi_wp2
        go_roundw
        case rel => exact ⟨k + 1, by omega, by go_num, by rw [HU.out]; exact hJ3, hnx.trans ((KeepT.below hb2 (by have := hnx.1.size; omega) (by have := hnx.1.size; have := hp.lt; omega) (by have := hnx.1.size; have := lt_of_cellSome hh; omega)).trans hk3)⟩
        case measure => simp [intOf]; omega
      · gi_wp2
        refine bodyPost_ret (results_none rfl _ _ _) rfl ?_
        exact ⟨⟨_, rfl⟩, .inr ⟨_, ⟨k + 1, by omega, HU.out.symm⟩, hJx3⟩⟩
    · obtain rfl : k = 12 := by omega
      gi_wp2
      go_end0
      exact ⟨⟨_, rfl⟩, .inl ⟨_, rfl, hJs⟩⟩
theorem terms_stops (n : Nat) (hn : 2 ≤ n) (Bp Bh n₀ : Nat) (l : List Int) (h : Int) (hl : l.length = 12) (hb : -1000 ≤ h ∧ h ≤ 1000) (h3 : 0 < n₀) (w : World) (hn₀ : n₀ ≤ w.heap.size) (hp : BlkI w Bp 72 l) (hh : w.cell? ⟨Bh, 0, none⟩ = some (.int .i64 h)) (hw : Powers w) :
    SeqStopsK Fence.wide n Tryz.prog 103 #[.pointer (some ⟨Bp, 0, none⟩), .pointer (some ⟨Bh, 0, none⟩)] (fun x : Int × Int × Int × Int => #[cyV x]) (KeepT n₀ Bp Bh) (fun ys => ys = upto (termC l h) 12) (fun _ => True) 12 w := fun y J Jx W hW hJ _ hY h0 =>
  (terms1_in n hn y Bp Bh n₀ l h hl hb h3 J Jx (fun pre A B h hg => hJ pre A B none h hg (fun r e => by cases e)) hY W (by have := hW.size; omega) (hp.carry hW) (cellb hh hW) (hw.carry hW) h0).mono fun _ _ ⟨hv, h⟩ => ⟨hv, h.imp (fun ⟨ys, a, b⟩ => ⟨ys, a, b⟩) (fun ⟨pre, _, h⟩ => ⟨pre, trivial, h⟩)⟩

def cyAdd (x y : Int × Int × Int × Int) : Int × Int × Int × Int := (wrap64 (x.1 + y.1), wrap64 (x.2.1 + y.2.1), wrap64 (x.2.2.1 + y.2.2.1), wrap64 (x.2.2.2 + y.2.2.2))
def orderC (l : List Int) (h : Int) : Int × Int × Int × Int := (upto (termC l h) 12).foldl cyAdd (0, 0, 0, 0)
def cyL (x : Int × Int × Int × Int) : List Value := [.int .i64 x.1, .int .i64 x.2.1, .int .i64 x.2.2.1, .int .i64 x.2.2.2]

theorem Blk.own {w w' : World} {row : Option Nat} {B : Nat} {T : TypeId} {vs : List Value} (h : Blk w B T vs) (hg : w.grownBy w' row) (hr : ∀ r, row = some r → ∃ o : Obj, w.heap[r]? = some o ∧ o.isCells = false) : Blk w' B T vs :=
  h.kept hg (fun e => by obtain ⟨o, ho, hc⟩ := hr B e.symm; rw [show w.heap[B]? = _ from h] at ho; cases ho; cases hc)
theorem cyAdd_snoc (pre : List (Int × Int × Int × Int)) (x z : Int × Int × Int × Int) : (pre ++ [x]).foldl cyAdd z = cyAdd (pre.foldl cyAdd z) x := by simp

set_option maxRecDepth 100000 in
set_option maxHeartbeats 2000000 in
theorem order_any (l : List Int) (h : Int) (w : World) (hl : l.length = 12) (hb : -1000 ≤ h ∧ h ≤ 1000) (hw : Powers w) :
    Calls Tryz.prog 51 #[.agg (ia l), .int .i64 h] w fun e w' => e = .returned (cyV (orderC l h)) ∧ Below w.heap.size w w' := by
  have h0 : 0 < w.heap.size := lt_of_cellSome (hw 0 (by omega))
  obtain ⟨⟨o0, o1, o2, o3⟩, hO⟩ : ∃ O, O = orderC l h := ⟨_, rfl⟩
  rw [← hO]
  have HO := Lib.hid hO
  clear hO
  refine calls_of_postR Tryz.func51 rfl ?_
  simp only [Tryz.ntmps51, List.size_toArray, List.length_cons, List.length_nil, Nat.reduceAdd, Nat.reduceSub, Array.replicate_succ, Array.replicate_zero, List.push_toArray, List.append_toArray, List.nil_append, List.cons_append]
  go_upto_region 1 with fail
  obtain ⟨W1, hW1⟩ : ∃ W, W = w.alloc (.cells (ia l) 72) := ⟨_, rfl⟩
  have kW1 : Below w.heap.size w W1 := by rw [hW1]; exact below_new _ _
  have iW1 : BlkI W1 w.heap.size 72 l := by rw [hW1]; exact BlkI.new _ _ _
  have sW1 : W1.heap.size = w.heap.size + 1 := by rw [hW1]; simp
  rw [← hW1]
  clear hW1
  obtain ⟨W2, hW2⟩ : ∃ v, v = World.alloc W1 (Obj.cells #[.int .i64 0, .int .i64 0, .int .i64 0, .int .i64 0] 68) := ⟨_, rfl⟩
  have kW2 : Below W1.heap.size W1 W2 := by rw [hW2]; exact below_new _ _
  have iW2 : Blk W2 (w.heap.size + 1) 68 [.int .i64 0, .int .i64 0, .int .i64 0, .int .i64 0] := by rw [hW2, ← sW1]; exact Blk.new _ _ _
  have sW2 : W2.heap.size = w.heap.size + 1 + 1 := by rw [hW2]; simp [sW1]
  rw [← hW2]
  clear hW2
  go_upto_region 2 with fail
  obtain ⟨W3, hW3⟩ : ∃ v, v = World.alloc W2 (Obj.cells #[.int .i64 0, .int .i64 0, .int .i64 0, .int .i64 0] 68) := ⟨_, rfl⟩
  have kW3 : Below W2.heap.size W2 W3 := by rw [hW3]; exact below_new _ _
  have iW3 : Blk W3 (w.heap.size + 1 + 1) 68 [.int .i64 0, .int .i64 0, .int .i64 0, .int .i64 0] := by rw [hW3, ← sW2]; exact Blk.new _ _ _
  have sW3 : W3.heap.size = w.heap.size + 1 + 1 + 1 := by rw [hW3]; simp [sW2]
  rw [← hW3]
  clear hW3
  have i1 := (iW1.carry kW2).carry kW3
  have i2 := iW2.carry kW3
  have i3 := iW3
  have hB := bthen kW1 (bthen kW2 kW3)
  clear iW1 kW1 iW2 kW2 iW3 kW3 sW1 sW2
  have hld := load12 hl i1
  go_wp2_with (refine wpList_load rfl _ _ rfl hld ?_)
  refine (terms_any l h W3 hl).mono ?_
  rintro e w' ⟨rfl, rfl⟩
  clear hld
  obtain ⟨W4, hW4⟩ : ∃ W, W = W3.alloc (.cells (ia l) 72) := ⟨_, rfl⟩
  have kW4 : Below W3.heap.size W3 W4 := by rw [hW4]; exact below_new _ _
  have iW4 : BlkI W4 W3.heap.size 72 l := by rw [hW4]; exact BlkI.new _ _ _
  have sW4 : W4.heap.size = W3.heap.size + 1 := by rw [hW4]; simp
  rw [← hW4]
  clear hW4
  rw [sW3] at iW4 sW4 ⊢
  obtain ⟨W0, hW0⟩ : ∃ v, v = World.alloc W4 (Obj.cells #[.int .i64 h] 3) := ⟨_, rfl⟩
  have kW0 : Below W4.heap.size W4 W0 := by rw [hW0]; exact below_new _ _
  have iW0 : Blk W0 (w.heap.size + 1 + 1 + 1 + 1) 3 [.int .i64 h] := by rw [hW0, ← sW4]; exact Blk.new _ _ _
  have sW0 : W0.heap.size = w.heap.size + 1 + 1 + 1 + 1 + 1 := by rw [hW0]; simp [sW4]
  rw [← hW0]
  clear hW0
  have hc0 := iW0.cell (j := 0) (v := .int .i64 h) rfl
  have ip := iW4.carry kW0
  replace i2 := (i2.carry kW4).carry kW0
  replace i3 := (i3.carry kW4).carry kW0
  replace hB := bthen hB (bthen kW4 kW0)
  have s0 : W0.heap.size = w.heap.size + 5 := by omega
  clear iW4 kW4 iW0 kW0 sW3 sW4 sW0 i1
  go_wp2_with fail
  refine (wpIn_wide (n := 5)).1 (wpIn_rangeFunc_ownH (α := Int × Int × Int × Int) rfl (by omega) (gf := 103) (lb := #[.pointer (some ⟨w.heap.size + 1 + 1 + 1, 0, none⟩), .pointer (some ⟨w.heap.size + 1 + 1 + 1 + 1, 0, none⟩)]) rfl trivial (enters_of Tryz.func103 (by kernel_rfl) rfl)
    (terms_stops 4 (by omega) (w.heap.size + 1 + 1 + 1) (w.heap.size + 1 + 1 + 1 + 1) w.heap.size l h hl hb h0 W0 (by omega) ip hc0 (hw.carry hB))
    KeepT.trans (fun W y o o' hy hW hc hk => KeepT.turn (n₀ := w.heap.size) (Bp := w.heap.size + 1 + 1 + 1) (Bh := w.heap.size + 1 + 1 + 1 + 1) (w := W0) W y o o' (by omega) (by omega) (by omega) hy hW hc hk) (Below.refl _ _) (fun _ => rfl)
    (fun pre W => (Blk W (w.heap.size + 1) 68 (cyL (0, 0, 0, 0)) ∧ Blk W (w.heap.size + 1 + 1) 68 (cyL (pre.foldl cyAdd (0, 0, 0, 0)))) ∧ Below w.heap.size W0 W)
    (fun _ _ _ => False)
    (OwnFrom.and (fun s A B row hs hg hr => ⟨hs.1.own hg (fun r e => (hr r e).2), hs.2.own hg (fun r e => (hr r e).2)⟩) (ownFrom_below (by omega) (by omega)))
    (fun _ _ _ _ _ hs _ _ => hs)
    ⟨⟨i2, i3⟩, Below.refl _ _⟩
    (fun x a' W => ∃ Bx, w.heap.size + 5 ≤ Bx ∧ Blk W Bx 68 (cyL x) ∧ a' = { tmps := #[Value.agg (ia l), Value.int IntKind.i64 h, Value.pointer (some { block := w.heap.size, off := 0 }), undef, Value.pointer (some { block := w.heap.size + 1, off := 0 }), Value.pointer (some { block := w.heap.size + 1 + 1, off := 0 }), .pointer (some ⟨Bx, 0, none⟩), Value.agg (ia l), Value.int IntKind.i64 h, Value.func (Fn.func 103) #[] #[Value.pointer (some { block := w.heap.size + 1 + 1 + 1, off := 0 }), Value.pointer (some { block := w.heap.size + 1 + 1 + 1 + 1, off := 0 })], cyV x, undef, undef, undef, undef], defers := [] })
    (fun x a' _ A B row hs hg hr => by obtain ⟨Bx, h1, h2, h3⟩ := hs; exact ⟨Bx, h1, h2.own hg (fun r e => (hr r e).2), h3⟩) ?assign ?body ?done ?stop)
  case assign =>
    rintro y pre x W K ⟨⟨j2, j3⟩, jB⟩ hK
    obtain ⟨x0, x1, x2, x3⟩ := x
    have hs := jB.size
    simp only [cyV] at hK ⊢
    gi_wp2
    have hb := below_new W (.cells #[.int .i64 x0, .int .i64 x1, .int .i64 x2, .int .i64 x3] 68)
    exact hK _ _ ((KeepsOthers.alloc _ _).from _) (KeepT.below hb (by omega) (by omega) (by omega)) ⟨⟨j2.carry hb, j3.carry hb⟩, jB.trans (hb.mono (by omega))⟩ ⟨_, by omega, Blk.new W _ _, rfl⟩
  case body =>
    rintro y pre x a' W hy hl ⟨⟨j2, j3⟩, jB⟩ ⟨Bx, hBx, jx, rfl⟩ hlt
    obtain ⟨x0, x1, x2, x3⟩ := x
    have hs := jB.size
    have hsn := cyAdd_snoc pre (x0, x1, x2, x3) (0, 0, 0, 0)
    rw [cyAdd] at hsn
    simp only [cyV, cyL] at j3 jx hsn ⊢
    generalize (pre.foldl cyAdd (0, 0, 0, 0)).1 = s0 at j3 hsn
    generalize (pre.foldl cyAdd (0, 0, 0, 0)).2.1 = s1 at j3 hsn
    generalize (pre.foldl cyAdd (0, 0, 0, 0)).2.2.1 = s2 at j3 hsn
    generalize (pre.foldl cyAdd (0, 0, 0, 0)).2.2.2 = s3 at j3 hsn
    have HSN := Lib.hid hsn
    clear hsn
    have c0 := j3.cell (j := 0) (v := .int .i64 s0) rfl
    have c1 := j3.cell (j := 1) (v := .int .i64 s1) rfl
    have c2 := j3.cell (j := 2) (v := .int .i64 s2) rfl
    have c3 := j3.cell (j := 3) (v := .int .i64 s3) rfl
    have d0 := jx.cell (j := 0) (v := .int .i64 x0) rfl
    have d1 := jx.cell (j := 1) (v := .int .i64 x1) rfl
    have d2 := jx.cell (j := 2) (v := .int .i64 x2) rfl
    have d3 := jx.cell (j := 3) (v := .int .i64 x3) rfl
    have hwf : ∀ f, (Fence.wide.inRound y).fn f := fun _ => trivial
    have TP := Lib.hid ((callsIn_wide (n := 2)).2 (plusC_any s0 s1 s2 s3 x0 x1 x2 x3 W))
    gi_wp2_with fail
    refine (TP.out.inRound y).mono ?_
    rintro e w2 ⟨rfl, hb2⟩
    clear c0 c1 c2 c3 d0 d1 d2 d3 TP
    replace j2 := j2.carry hb2
    replace j3 := j3.carry hb2
    have c0 := j3.cell (j := 0) (v := .int .i64 s0) rfl
    have c1 := j3.cell (j := 1) (v := .int .i64 s1) rfl
    have c2 := j3.cell (j := 2) (v := .int .i64 s2) rfl
    have c3 := j3.cell (j := 3) (v := .int .i64 s3) rfl
    have f0 := j3.frozen 0
    have f1 := j3.frozen 1
    have f2 := j3.frozen 2
    have f3 := j3.frozen 3
    gi_wp2
    have hs2 := hb2.size
    have k4 : KeepT w.heap.size (w.heap.size + 1 + 1 + 1) (w.heap.size + 1 + 1 + 1 + 1) W ((((w2.setCell ⟨w.heap.size + 1 + 1, 0, none⟩ (.int .i64 (wrap64 (s0 + x0)))).setCell ⟨w.heap.size + 1 + 1, 1, none⟩ (.int .i64 (wrap64 (s1 + x1)))).setCell ⟨w.heap.size + 1 + 1, 2, none⟩ (.int .i64 (wrap64 (s2 + x2)))).setCell ⟨w.heap.size + 1 + 1, 3, none⟩ (.int .i64 (wrap64 (s3 + x3)))) :=
      ((((KeepT.below hb2 (by omega) (by omega) (by omega)).trans (KeepT.set _ ⟨w.heap.size + 1 + 1, 0, none⟩ _ (by simp; omega) (by simp) (by simp; omega))).trans (KeepT.set _ ⟨w.heap.size + 1 + 1, 1, none⟩ _ (by simp; omega) (by simp) (by simp; omega))).trans (KeepT.set _ ⟨w.heap.size + 1 + 1, 2, none⟩ _ (by simp; omega) (by simp) (by simp; omega))).trans (KeepT.set _ ⟨w.heap.size + 1 + 1, 3, none⟩ _ (by simp; omega) (by simp) (by simp; omega))
    refine ⟨(((((keeps_of_below hb2).trans (KeepsOthers.setCell _ _ _)).trans (KeepsOthers.setCell _ _ _)).trans (KeepsOthers.setCell _ _ _)).trans (KeepsOthers.setCell _ _ _)).from _, k4, ⟨?_, ?_⟩, jB.trans k4.1⟩
    · exact (((j2.other (B' := w.heap.size + 1 + 1) (j := 0) (by omega) _).other (B' := w.heap.size + 1 + 1) (j := 1) (by omega) _).other (B' := w.heap.size + 1 + 1) (j := 2) (by omega) _).other (B' := w.heap.size + 1 + 1) (j := 3) (by omega) _
    · rw [HSN.out]
      exact (((j3.set 0 _).set 1 _).set 2 _).set 3 _
  case done =>
    rintro D ys W hD rfl ⟨⟨j2, j3⟩, jB⟩ hK
    have hx : (upto (termC l h) 12).foldl cyAdd (0, 0, 0, 0) = (o0, o1, o2, o3) := HO.out.symm
    rw [hx] at j3
    clear hx
    have hs := jB.size
    simp only [cyV, cyL] at j2 j3 ⊢
    have c0 := j3.cell (j := 0) (v := .int .i64 o0) rfl
    have c1 := j3.cell (j := 1) (v := .int .i64 o1) rfl
    have c2 := j3.cell (j := 2) (v := .int .i64 o2) rfl
    have c3 := j3.cell (j := 3) (v := .int .i64 o3) rfl
    have d0 := j2.cell (j := 0) (v := .int .i64 0) rfl
    have d1 := j2.cell (j := 1) (v := .int .i64 0) rfl
    have d2 := j2.cell (j := 2) (v := .int .i64 0) rfl
    have d3 := j2.cell (j := 3) (v := .int .i64 0) rfl
    have f0 := j2.frozen 0
    have f1 := j2.frozen 1
    have f2 := j2.frozen 2
    have f3 := j2.frozen 3
    go_wp2_with fail
    have h9 := (((j2.set 0 (.int .i64 o0)).set 1 (.int .i64 o1)).set 2 (.int .i64 o2)).set 3 (.int .i64 o3)
    have hK9 := (Below.heap_setCell _ ⟨w.heap.size + 1, 3, none⟩ (.int .i64 o3) D (by simp; omega)).trans ((Below.heap_setCell _ ⟨w.heap.size + 1, 2, none⟩ (.int .i64 o2) D (by simp; omega)).trans ((Below.heap_setCell _ ⟨w.heap.size + 1, 1, none⟩ (.int .i64 o1) D (by simp; omega)).trans ((Below.heap_setCell W ⟨w.heap.size + 1, 0, none⟩ (.int .i64 o0) D (by simp; omega)).trans hK)))
    have hBe := ((((hB.trans jB).setCell (p := ⟨w.heap.size + 1, 0, none⟩) (by simp) (.int .i64 o0)).setCell (p := ⟨w.heap.size + 1, 1, none⟩) (by simp) (.int .i64 o1)).setCell (p := ⟨w.heap.size + 1, 2, none⟩) (by simp) (.int .i64 o2)).setCell (p := ⟨w.heap.size + 1, 3, none⟩) (by simp) (.int .i64 o3)
    have h10 := h9.own (grownBy_putObj' _ D (.deferred none)) (fun r e => by cases e; exact ⟨_, hK9, rfl⟩)
    have z0 := h10.cell (j := 0) (v := .int .i64 o0) rfl
    have z1 := h10.cell (j := 1) (v := .int .i64 o1) rfl
    have z2 := h10.cell (j := 2) (v := .int .i64 o2) rfl
    have z3 := h10.cell (j := 3) (v := .int .i64 o3) rfl
    exact postR_mark (v := .agg #[.int .i64 o0, .int .i64 o1, .int .i64 o2, .int .i64 o3]) hK9 rfl (by simp [results, Tryz.f51, go_sem, z0, z1, z2, z3]) ⟨rfl, hBe.trans (belowK_b (w := w) (Nat.le_refl _) _ D _ _ (by omega) hK9 rfl rfl)⟩
  case stop =>
    rintro D c pre W _ _ h _
    exact h.elim
end Go.Proofs.YtpkaoechbmbolaaGreatDoor

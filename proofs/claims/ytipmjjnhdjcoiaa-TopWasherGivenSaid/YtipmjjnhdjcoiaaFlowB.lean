/- The package flow at straight lines: one line. -/
import Derived.Test.YtipmjjnhdjcoiaaFlowA
namespace Go.Proofs.Ytipmjjnhdjcoiaa
set_option linter.unusedSimpArgs false
set_option linter.unusedVariables false
open Go.RowKit

/-- a line of two points: the power P at the voltage 0, Q at V. -/
def LineIs (w : World) (v : Value) (V P Q : Int) : Prop := ∃ b off cap, v = .slice (some ⟨b, off, none⟩) 2 cap ∧ 2 ≤ cap ∧
  (w.cell? ⟨b, off, none⟩ = some (.int .i64 0) ∧ w.cell? ⟨b, off + 1, none⟩ = some (.int .i64 P) ∧ w.cell? ⟨b, off + 2, none⟩ = some (.int .i64 V) ∧ w.cell? ⟨b, off + 3, none⟩ = some (.int .i64 Q))
theorem LineIs.carry {w w' : World} {v : Value} {V P Q : Int} (h : LineIs w v V P Q) (hb : Below w.heap.size w w') : LineIs w' v V P Q := by
  obtain ⟨b, off, cap, e, hc, h0, h1, h2, h3⟩ := h
  exact ⟨b, off, cap, e, hc, cellb h0 hb, cellb h1 hb, cellb h2 hb, cellb h3 hb⟩
theorem LineIs.new (w : World) (T : TypeId) (V P Q : Int) : LineIs (w.alloc (.cells #[.int .i64 0, .int .i64 P, .int .i64 V, .int .i64 Q] T)) (.slice (some ⟨w.heap.size, 0, none⟩) 2 2) V P Q :=
  ⟨_, _, _, rfl, Nat.le_refl _, cell_new _ _ _ _, cell_new _ _ _ _, cell_new _ _ _ _, cell_new _ _ _ _⟩

set_option maxHeartbeats 1000000 in
theorem ends_any (v : Value) (V P Q : Int) (w : World) (h : LineIs w v V P Q) :
    Calls Try.prog 83 #[v] w fun r w' => r = .returned (.agg #[.int .i64 0, .int .i64 V]) ∧ Below w.heap.size w w' := by
  obtain ⟨b, off, cap, rfl, hc, e0, e1, e2, e3⟩ := h
  have k1 : IntKind.i64.wrap 1 = 1 := IntWalk.i64_in _ (by omega)
  go_enter Try.func83, Try.ntmps83
  go_upto_region 1 with fail
  obtain ⟨W1, hW1⟩ : ∃ v, v = World.alloc w (Obj.cells #[.int .i64 0, .int .i64 0] 45) := ⟨_, rfl⟩
  have kW1 : Below w.heap.size w W1 := by rw [hW1]; exact below_new _ _
  have iW1 : Blk W1 (w.heap.size) 45 [.int .i64 0, .int .i64 0] := by rw [hW1]; exact Blk.new _ _ _
  have sW1 : W1.heap.size = w.heap.size + 1 := by rw [hW1]; simp
  rw [← hW1]
  clear hW1
  clear sW1
  have hB := kW1
  have iR := iW1
  clear iW1 kW1 e1 e3
  refine wp_region_held_drew (S := (fun w' => w'.cell? ⟨b, off, none⟩ = some (.int .i64 0) ∧ w'.cell? ⟨b, off + 2, none⟩ = some (.int .i64 V))) (by kernel_rfl) ⟨cellb e0 hB.drew, cellb e2 hB.drew⟩ (fun hHeld0 => ?_)
  obtain ⟨wzd, hwz⟩ : ∃ v, v = W1.drew := ⟨_, rfl⟩
  rw [← hwz] at hHeld0 ⊢
  have hbzd : Below w.heap.size w wzd := by rw [hwz]; exact hB.drew
  have hlzd : Below W1.heap.size W1 wzd := by rw [hwz]; exact (Below.refl _ _).drew
  have iR := iR.carry hlzd
  clear hwz hlzd
  refine wpAnyH_take (i := 0) (oi := { dst := some 3, op := Op.move (Operand.tmp 0), type := 58, pos := "flow.go:91", after := #[], guard := none }) (v := ?_) rfl (by kernel_rfl) (by kernel_rfl) (by kernel_rfl) (fun _ _ _ h => h) (Or.inl ⟨by rfl, ?_⟩) (by assumption) ?_
  rotate_left
  · (intro w hSw; (try dsimp only at hSw); go_simp); (try with_reducible rfl)
  try simp only [Act.put, List.setIfInBounds_toArray, List.set_cons_zero, List.set_cons_succ]
  refine wpAnyH_take (i := 1) (oi := { dst := some 4, op := Op.indexAddr 58 (Operand.tmp 3) (Operand.const (Value.int IntKind.i64 0)), type := 0, pos := "flow.go:91", after := #[{ on := 0, ground := Ground.data }], guard := none }) (v := ?_) rfl (by kernel_rfl) (by kernel_rfl) (by kernel_rfl) (fun _ _ _ h => h) (Or.inl ⟨by rfl, ?_⟩) (by assumption) ?_
  rotate_left
  · (intro w hSw; (try dsimp only at hSw); go_simp); (try with_reducible rfl)
  try simp only [Act.put, List.setIfInBounds_toArray, List.set_cons_zero, List.set_cons_succ]
  refine wpAnyH_take (i := 2) (oi := { dst := some 5, op := Op.fieldAddr 56 (Operand.tmp 4) 0, type := 0, pos := "flow.go:91", after := #[{ on := 1, ground := Ground.data }], guard := none }) (v := ?_) rfl (by kernel_rfl) (by kernel_rfl) (by kernel_rfl) (fun _ _ _ h => h) (Or.inl ⟨by rfl, ?_⟩) (by assumption) ?_
  rotate_left
  · (intro w hSw; (try dsimp only at hSw); go_simp); (try with_reducible rfl)
  try simp only [Act.put, List.setIfInBounds_toArray, List.set_cons_zero, List.set_cons_succ]
  refine wpAnyH_take (i := 3) (oi := { dst := some 6, op := Op.load 3 (Operand.tmp 5), type := 3, pos := "flow.go:91", after := #[{ on := 2, ground := Ground.data }], guard := none }) (v := ?_) rfl (by kernel_rfl) (by kernel_rfl) (by kernel_rfl) (fun _ _ _ h => h) (Or.inl ⟨by rfl, ?_⟩) (by assumption) ?_
  rotate_left
  · (intro w hSw; (try dsimp only at hSw); go_simp); (try with_reducible rfl)
  try simp only [Act.put, List.setIfInBounds_toArray, List.set_cons_zero, List.set_cons_succ]
  refine wpAnyH_take (i := 4) (oi := { dst := some 7, op := Op.move (Operand.tmp 0), type := 58, pos := "flow.go:91", after := #[], guard := none }) (v := ?_) rfl (by kernel_rfl) (by kernel_rfl) (by kernel_rfl) (fun _ _ _ h => h) (Or.inl ⟨by rfl, ?_⟩) (by assumption) ?_
  rotate_left
  · (intro w hSw; (try dsimp only at hSw); go_simp); (try with_reducible rfl)
  try simp only [Act.put, List.setIfInBounds_toArray, List.set_cons_zero, List.set_cons_succ]
  refine wpAnyH_take (i := 5) (oi := { dst := some 8, op := Op.move (Operand.tmp 0), type := 58, pos := "flow.go:91", after := #[], guard := none }) (v := ?_) rfl (by kernel_rfl) (by kernel_rfl) (by kernel_rfl) (fun _ _ _ h => h) (Or.inl ⟨by rfl, ?_⟩) (by assumption) ?_
  rotate_left
  · (intro w hSw; (try dsimp only at hSw); go_simp); (try with_reducible rfl)
  try simp only [Act.put, List.setIfInBounds_toArray, List.set_cons_zero, List.set_cons_succ]
  refine wpAnyH_take (i := 6) (oi := { dst := some 9, op := Op.call { callee := Callee.builtin Builtin.len, args := #[Operand.tmp 8], argTypes := #[58] }, type := 3, pos := "flow.go:91", after := #[{ on := 5, ground := Ground.data }], guard := none }) (v := ?_) rfl (by kernel_rfl) (by kernel_rfl) (by kernel_rfl) (fun _ _ _ h => h) (Or.inl ⟨by rfl, ?_⟩) (by assumption) ?_
  rotate_left
  · (intro w hSw; (try dsimp only at hSw); go_simp); (try with_reducible rfl)
  try simp only [Act.put, List.setIfInBounds_toArray, List.set_cons_zero, List.set_cons_succ]
  refine wpAnyH_take (i := 7) (oi := { dst := some 10, op := Op.binOp BinOp.sub 3 (Operand.tmp 9) (Operand.const (Value.int IntKind.i64 1)) 3, type := 3, pos := "flow.go:91", after := #[{ on := 6, ground := Ground.data }], guard := none }) (v := ?_) rfl (by kernel_rfl) (by kernel_rfl) (by kernel_rfl) (fun _ _ _ h => h) (Or.inl ⟨by rfl, ?_⟩) (by assumption) ?_
  rotate_left
  · (intro w hSw; (try dsimp only at hSw); go_simp); (try with_reducible rfl)
  try simp only [Act.put, List.setIfInBounds_toArray, List.set_cons_zero, List.set_cons_succ]
  refine wpAnyH_take (i := 8) (oi := { dst := some 11, op := Op.indexAddr 58 (Operand.tmp 7) (Operand.tmp 10), type := 0, pos := "flow.go:91", after := #[{ on := 4, ground := Ground.data }, { on := 7, ground := Ground.data }], guard := none }) (v := ?_) rfl (by kernel_rfl) (by kernel_rfl) (by kernel_rfl) (fun _ _ _ h => h) (Or.inl ⟨by rfl, ?_⟩) (by assumption) ?_
  rotate_left
  · (intro w hSw; (try dsimp only at hSw); go_simp); (try with_reducible rfl)
  try simp only [Act.put, List.setIfInBounds_toArray, List.set_cons_zero, List.set_cons_succ]
  refine wpAnyH_take (i := 9) (oi := { dst := some 12, op := Op.fieldAddr 56 (Operand.tmp 11) 0, type := 0, pos := "flow.go:91", after := #[{ on := 8, ground := Ground.data }], guard := none }) (v := ?_) rfl (by kernel_rfl) (by kernel_rfl) (by kernel_rfl) (fun _ _ _ h => h) (Or.inl ⟨by rfl, ?_⟩) (by assumption) ?_
  rotate_left
  · (intro w hSw; (try dsimp only at hSw); go_simp); (try with_reducible rfl)
  try simp only [Act.put, List.setIfInBounds_toArray, List.set_cons_zero, List.set_cons_succ]
  refine wpAnyH_take (i := 10) (oi := { dst := some 13, op := Op.load 3 (Operand.tmp 12), type := 3, pos := "flow.go:91", after := #[{ on := 9, ground := Ground.data }], guard := none }) (v := ?_) rfl (by kernel_rfl) (by kernel_rfl) (by kernel_rfl) (fun _ _ _ h => h) (Or.inl ⟨by rfl, ?_⟩) (by assumption) ?_
  rotate_left
  · (intro w hSw; (try dsimp only at hSw); go_simp); (try with_reducible rfl)
  try simp only [Act.put, List.setIfInBounds_toArray, List.set_cons_zero, List.set_cons_succ]
  refine wpAnyH_take (i := 11) (oi := { dst := some 14, op := Op.build 45 #[(0, Operand.tmp 6), (1, Operand.tmp 13)], type := 45, pos := "flow.go:91", after := #[{ on := 3, ground := Ground.data }, { on := 10, ground := Ground.data }], guard := none }) (v := ?_) rfl (by kernel_rfl) (by kernel_rfl) (by kernel_rfl) (fun _ _ _ h => h) (Or.inl ⟨by rfl, ?_⟩) (by assumption) ?_
  rotate_left
  · (intro w hSw; (try dsimp only at hSw); go_simp); (try with_reducible rfl)
  try simp only [Act.put, List.setIfInBounds_toArray, List.set_cons_zero, List.set_cons_succ]
  refine wpAnyH_ready (rs := [12]) (by kernel_rfl) (by simp) ?_
  refine (AllReadyH.cons (o := { dst := none, op := Op.store 45 (Operand.tmp 2) (Operand.tmp 14), type := 0, pos := "flow.go:91", after := #[{ on := 11, ground := Ground.data }, { on := 0, ground := Ground.phase }, { on := 1, ground := Ground.phase }, { on := 2, ground := Ground.phase }, { on := 3, ground := Ground.phase }, { on := 4, ground := Ground.phase }, { on := 5, ground := Ground.phase }, { on := 6, ground := Ground.phase }, { on := 7, ground := Ground.phase }, { on := 8, ground := Ground.phase }, { on := 9, ground := Ground.phase }, { on := 10, ground := Ground.phase }, { on := 11, ground := Ground.phase }], guard := none }) rfl (fun K hK => ?_) AllReadyH.nil)
  have c0 := iR.cell (j := 0) (v := .int .i64 0) rfl
  have c1 := iR.cell (j := 1) (v := .int .i64 0) rfl
  have f0 := iR.frozen 0
  have f1 := iR.frozen 1
  go_simp
  obtain ⟨wz12, hwz⟩ : ∃ v, v = (wzd.setCell ⟨w.heap.size, 0, none⟩ (.int .i64 0)).setCell ⟨w.heap.size, 1, none⟩ (.int .i64 V) := ⟨_, rfl⟩
  rw [← hwz]
  have hbz12 : Below w.heap.size w wz12 := by rw [hwz]; exact (hbzd.setCell (Nat.le_refl _) _).setCell (Nat.le_refl _) _
  have iR := iR.set2 (.int .i64 0) (.int .i64 V)
  rw [← hwz] at iR
  clear hwz
  refine hK.out _ _ ⟨cellb e0 hbz12, cellb e2 hbz12⟩ (fun hHeld1 => ?_)
  clear hK K hHeld0
  try simp only [Act.put, List.setIfInBounds_toArray, List.set_cons_zero, List.set_cons_succ]
  refine wpAnyH_done (by kernel_rfl) ?_ _
  clear hHeld1
  have y0 := iR.cell (j := 0) (v := .int .i64 0) rfl
  have y1 := iR.cell (j := 1) (v := .int .i64 V) rfl
  go_wp2_with fail
  exact bodyPost_ret (v := .agg #[.int .i64 0, .int .i64 V]) (by simp [results, Try.f83, go_sem, y0, y1]) rfl ⟨rfl, hbz12⟩

set_option maxHeartbeats 1000000 in
theorem piece1_any (x y n : Int) (B : Nat) (w : World) (hc : w.cell? ⟨B, 0, none⟩ = some (.int .i64 n)) :
    Calls Try.prog 93 #[.agg #[.int .i64 x, .int .i64 y], .pointer (some ⟨B, 0, none⟩)] w fun r w' => r = .returned (.bool (decide (n < x))) ∧ Below w.heap.size w w' := by
  have hb := lt_of_cellSome hc
  go_enter Try.func93, Try.ntmps93
  go_upto_region 1 with fail
  obtain ⟨W1, hW1⟩ : ∃ v, v = World.alloc w (Obj.cells #[.int .i64 x, .int .i64 y] 56) := ⟨_, rfl⟩
  have kW1 : Below w.heap.size w W1 := by rw [hW1]; exact below_new _ _
  have iW1 : Blk W1 (w.heap.size) 56 [.int .i64 x, .int .i64 y] := by rw [hW1]; exact Blk.new _ _ _
  have sW1 : W1.heap.size = w.heap.size + 1 := by rw [hW1]; simp
  rw [← hW1]
  clear hW1
  have c0 := iW1.cell (j := 0) (v := .int .i64 x) rfl
  replace hc := cellb hc kW1
  go_wp2_with fail
  go_ret
  exact ⟨rfl, kW1⟩
theorem Try.enterPiece1 (args : Array Value) (w : World) : Sem.run Try.prog (callFunc 93 args) w = .ok (.enter 93 args) w :=
  MuLone.run_callFunc_enter Try.func93 (by kernel_rfl) rfl args w

set_option maxHeartbeats 2000000 in
theorem IndexFuncL_any (v : Value) (V P Q n : Int) (B : Nat) (w : World) (h : LineIs w v V P Q) (hc : w.cell? ⟨B, 0, none⟩ = some (.int .i64 n)) (hn : 0 ≤ n) :
    Calls Try.prog 92 #[v, .func (.func 93) #[] #[.pointer (some ⟨B, 0, none⟩)]] w fun r w' => r = .returned (.int .i64 (if n < V then 1 else -1)) ∧ Below w.heap.size w w' := by
  have henter := Try.enterPiece1
  have HH := Lib.hid h
  obtain ⟨b, off, cap, rfl, hcap, _⟩ := h
  go_enter Try.func92, Try.ntmps92
  go_wp2
  go_loopw [8] (fun v8 wr => ∃ k : Nat, k ≤ 2 ∧ v8 = .int .i64 k ∧ (k = 2 → V ≤ n) ∧ Below w.heap.size w wr) (fun v8 _ => 2 - (intOf v8).toNat)
  case atStart => exact ⟨0, by omega, rfl, by omega, Below.refl _ _⟩
  case round =>
    obtain ⟨k, hk, rfl, hk2, hbr⟩ := hrel
    have hc1 := cellb hc hbr
    obtain ⟨b', off', cap', e, _, e0, e1, e2, e3⟩ := HH.out.carry hbr
    cases e
    obtain rfl | rfl | rfl : k = 0 ∨ k = 1 ∨ k = 2 := by omega
    · clear e2 e3
      go_wp2_with fail
      refine (piece1_any 0 P n B wr hc1).mono ?_
      rintro e w2 ⟨rfl, hl⟩
      have d1 : decide (n < (0 : Int)) = false := decide_eq_false (by omega)
      rw [d1]
      go_wp2_with fail
      go_roundw
      case rel => exact ⟨1, by omega, rfl, by omega, bthen hbr hl⟩
      case measure => simp [intOf]
    · clear e0 e1
      go_wp2_with fail
      refine (piece1_any V Q n B wr hc1).mono ?_
      rintro e w2 ⟨rfl, hl⟩
      by_cases hlt : n < V
      · rw [decide_eq_true hlt]
        go_wp2_with fail
        go_ret
        exact ⟨ret_int (by first | rfl | rw [if_pos (by omega)]), bthen hbr hl⟩
      · rw [decide_eq_false hlt]
        go_wp2_with fail
        go_roundw
        case rel => exact ⟨2, by omega, rfl, fun _ => by omega, bthen hbr hl⟩
        case measure => simp [intOf]
    · have hno := hk2 rfl
      go_wp2_with fail
      go_ret
      exact ⟨ret_int (by first | rfl | rw [if_neg (by omega)]), hbr⟩

set_option maxHeartbeats 1000000 in
theorem piece_any (v : Value) (V P Q n : Int) (w : World) (h : LineIs w v V P Q) (hn : 0 ≤ n) :
    Calls Try.prog 90 #[v, .int .i64 n] w fun r w' => r = .returned (.int .i64 0) ∧ Below w.heap.size w w' := by
  have HH := Lib.hid h
  obtain ⟨b, off, cap, rfl, hcap, _⟩ := h
  go_enter Try.func90, Try.ntmps90
  go_upto_region 1 with fail
  obtain ⟨W1, hW1⟩ : ∃ v, v = World.alloc w (Obj.cells #[.int .i64 n] 3) := ⟨_, rfl⟩
  have kW1 : Below w.heap.size w W1 := by rw [hW1]; exact below_new _ _
  have iW1 : Blk W1 (w.heap.size) 3 [.int .i64 n] := by rw [hW1]; exact Blk.new _ _ _
  have sW1 : W1.heap.size = w.heap.size + 1 := by rw [hW1]; simp
  rw [← hW1]
  clear hW1
  go_wp2_with fail
  refine (IndexFuncL_any _ V P Q n w.heap.size W1 (HH.out.carry kW1) (iW1.cell (j := 0) rfl) hn).mono ?_
  rintro e w2 ⟨rfl, hl⟩
  by_cases hlt : n < V
  · rw [if_pos hlt]
    go_wp2_with fail
    go_ret
    exact ⟨rfl, bthen kW1 hl⟩
  · rw [if_neg hlt]
    go_wp2_with fail
    go_ret
    exact ⟨rfl, bthen kW1 hl⟩

end Go.Proofs.Ytipmjjnhdjcoiaa

import Derived.Test.YtnlmaildmeihgaaWashSteps
import Derived.Test.YtnlmaildmeihgaaAppend
import Derived.Deep.DeepCutAuto
namespace Go.Proofs.Ytnlmaildmeihgaa
open Go.RowKit

theorem tmod_bd (x : Int) (m : Nat) (hm : 0 < m) : -((m : Int) - 1) ≤ x.tmod m ∧ x.tmod m ≤ (m : Int) - 1 := by
  have h := Int.natAbs_tmod x m
  have := Nat.mod_lt x.natAbs (show 0 < (m : Int).natAbs by simpa using hm)
  omega

def wA (x : Int) : Int := (IntKind.i64.wrap x).tmod 5
def wB (x : Int) : Int := IntKind.i64.wrap (1 + (IntKind.i64.wrap ((IntKind.i64.wrap x).tmod 4 + 4)).tmod 4)
theorem wA_bd (x : Int) : -4 ≤ wA x ∧ wA x ≤ 4 := by
  have := tmod_bd (IntKind.i64.wrap x) 5 (by decide)
  unfold wA
  simpa using this
theorem wB_bd (x : Int) : 1 ≤ wB x ∧ wB x ≤ 4 := by
  unfold wB
  have h := tmod_bd (IntKind.i64.wrap x) 4 (by decide)
  generalize IntKind.i64.wrap x = y at h ⊢
  have h : -3 ≤ y.tmod 4 ∧ y.tmod 4 ≤ 3 := by simpa using h
  generalize y.tmod 4 = z at h ⊢
  have e1 : IntKind.i64.wrap (z + 4) = z + 4 := IntWalk.i64_in _ (by omega)
  rw [e1]
  have h2 : 0 ≤ (z + 4).tmod 4 ∧ (z + 4).tmod 4 ≤ 3 := by
    rw [Int.tmod_eq_emod_of_nonneg (by omega)]; omega
  generalize (z + 4).tmod 4 = y at h2 ⊢
  have e2 : IntKind.i64.wrap (1 + y) = 1 + y := IntWalk.i64_in _ (by omega)
  rw [e2]; omega

/-- behind the first statement: two polynomials of the degree 1. -/
def Steps1 (w : World) (v7 v8 : Value) (w' : World) : Prop :=
  ∃ p0 p1 q0 q1 : Int, (-4 ≤ p0 ∧ p0 ≤ 4) ∧ (1 ≤ p1 ∧ p1 ≤ 4) ∧ (-4 ≤ q0 ∧ q0 ≤ 4) ∧ (1 ≤ q1 ∧ q1 ≤ 4) ∧ Ints w' v7 [p0, p1] ∧ Ints w' v8 [q0, q1] ∧ Below w.heap.size w w'

theorem eqGauss (a b : Int) (w : World) : Sem.run Try.prog (binOp BinOp.eql 33 (.agg #[.int .i64 a, .int .i64 b]) (.agg #[.int .i64 0, .int .i64 0])) w = .ok (.bool (a == 0 && b == 0)) w := by
  by_cases ha : a = 0
  · subst ha
    by_cases hb : b = 0
    · subst hb
      go_simp
    · have : (b == 0) = false := by simpa using hb
      go_simp
  · have : (a == 0) = false := by simpa using ha
    go_simp

set_option maxRecDepth 100000 in
set_option maxHeartbeats 4000000 in
theorem steps_law (a0 a1 b0 b1 vv : Int) (hvv : -128 ≤ vv ∧ vv ≤ 127) (w : World) :
    Calls Try.prog 3 #[.agg #[.int .i8 a0, .int .i8 a1], .agg #[.int .i8 b0, .int .i8 b1], .int .i8 vv] w fun r w' => r = .returned (.bool true) ∧ Below w.heap.size w w' := by
  go_enter Try.func3, Try.ntmps3
  go_wp2_with fail
  have zA := (Box2.new w 23 (.int .i8 a0) (.int .i8 a1)).alloc (Obj.cells #[Value.int IntKind.i8 b0, Value.int IntKind.i8 b1] 23)
  have zB := Box2.new (w.alloc (Obj.cells #[Value.int IntKind.i8 a0, Value.int IntKind.i8 a1] 23)) 23 (.int .i8 b0) (.int .i8 b1)
  rw [World.size_alloc] at zB
  have hB := bthen (below_new w (Obj.cells #[Value.int IntKind.i8 a0, Value.int IntKind.i8 a1] 23)) (below_new _ (Obj.cells #[Value.int IntKind.i8 b0, Value.int IntKind.i8 b1] 23))
  obtain ⟨W, hW⟩ : ∃ W, W = ((w.alloc (Obj.cells #[Value.int IntKind.i8 a0, Value.int IntKind.i8 a1] 23)).alloc (Obj.cells #[Value.int IntKind.i8 b0, Value.int IntKind.i8 b1] 23)) := ⟨_, rfl⟩
  rw [← hW] at zA zB hB ⊢
  clear hW
  obtain ⟨x0, x1, _, _⟩ := zA
  obtain ⟨y0, y1, _, _⟩ := zB
  go_upto_region 1 with fail
  go_cut [7, 8] from 28 (fun v7 v8 wx => Steps1 W v7 v8 wx)
  case first =>
    refine wp_region_held_drew (S := (fun w' => w'.cell? ⟨w.heap.size, 0, none⟩ = some (.int .i8 a0) ∧ w'.cell? ⟨w.heap.size, 1, none⟩ = some (.int .i8 a1) ∧ w'.cell? ⟨w.heap.size + 1, 0, none⟩ = some (.int .i8 b0) ∧ w'.cell? ⟨w.heap.size + 1, 1, none⟩ = some (.int .i8 b1))) (by kernel_rfl) ?_ (fun hHeld0 => ?_)
    · (try dsimp only); go_keep
    refine wpAnyH_take (i := 0) (oi := { dst := some 28, op := Op.indexAddr 23 (Operand.tmp 3) (Operand.const (Value.int IntKind.i64 0)), type := 0, pos := "top03_wt47d.go:67", after := #[], guard := none }) (v := ?_) rfl (by kernel_rfl) (by kernel_rfl) (by kernel_rfl) (fun _ _ _ h => h) (Or.inl ⟨by rfl, ?_⟩) (by assumption) ?_
    rotate_left
    · (intro w hSw; (try dsimp only at hSw); go_simp); (try with_reducible rfl)
    try simp only [Act.put, List.setIfInBounds_toArray, List.set_cons_zero, List.set_cons_succ]
    refine wpAnyH_take (i := 1) (oi := { dst := some 29, op := Op.load 22 (Operand.tmp 28), type := 22, pos := "top03_wt47d.go:67", after := #[{ on := 0, ground := Ground.data }], guard := none }) (v := ?_) rfl (by kernel_rfl) (by kernel_rfl) (by kernel_rfl) (fun _ _ _ h => h) (Or.inl ⟨by rfl, ?_⟩) (by assumption) ?_
    rotate_left
    · (intro w hSw; (try dsimp only at hSw); go_simp); (try with_reducible rfl)
    try simp only [Act.put, List.setIfInBounds_toArray, List.set_cons_zero, List.set_cons_succ]
    refine wpAnyH_take (i := 2) (oi := { dst := some 30, op := Op.convert 22 3 (Operand.tmp 29), type := 3, pos := "top03_wt47d.go:67", after := #[{ on := 1, ground := Ground.data }], guard := none }) (v := ?_) rfl (by kernel_rfl) (by kernel_rfl) (by kernel_rfl) (fun _ _ _ h => h) (Or.inl ⟨by rfl, ?_⟩) (by assumption) ?_
    rotate_left
    · (intro w hSw; (try dsimp only at hSw); go_simp); (try with_reducible rfl)
    try simp only [Act.put, List.setIfInBounds_toArray, List.set_cons_zero, List.set_cons_succ]
    refine wpAnyH_take (i := 3) (oi := { dst := some 31, op := Op.binOp BinOp.rem 3 (Operand.tmp 30) (Operand.const (Value.int IntKind.i64 5)) 3, type := 3, pos := "top03_wt47d.go:67", after := #[{ on := 2, ground := Ground.data }], guard := none }) (v := ?_) rfl (by kernel_rfl) (by kernel_rfl) (by kernel_rfl) (fun _ _ _ h => h) (Or.inl ⟨by rfl, ?_⟩) (by assumption) ?_
    rotate_left
    · (intro w hSw; (try dsimp only at hSw); go_simp); (try with_reducible rfl)
    try simp only [Act.put, List.setIfInBounds_toArray, List.set_cons_zero, List.set_cons_succ]
    refine wpAnyH_take (i := 4) (oi := { dst := some 32, op := Op.indexAddr 23 (Operand.tmp 3) (Operand.const (Value.int IntKind.i64 1)), type := 0, pos := "top03_wt47d.go:67", after := #[], guard := none }) (v := ?_) rfl (by kernel_rfl) (by kernel_rfl) (by kernel_rfl) (fun _ _ _ h => h) (Or.inl ⟨by rfl, ?_⟩) (by assumption) ?_
    rotate_left
    · (intro w hSw; (try dsimp only at hSw); go_simp); (try with_reducible rfl)
    try simp only [Act.put, List.setIfInBounds_toArray, List.set_cons_zero, List.set_cons_succ]
    refine wpAnyH_take (i := 5) (oi := { dst := some 33, op := Op.load 22 (Operand.tmp 32), type := 22, pos := "top03_wt47d.go:67", after := #[{ on := 4, ground := Ground.data }], guard := none }) (v := ?_) rfl (by kernel_rfl) (by kernel_rfl) (by kernel_rfl) (fun _ _ _ h => h) (Or.inl ⟨by rfl, ?_⟩) (by assumption) ?_
    rotate_left
    · (intro w hSw; (try dsimp only at hSw); go_simp); (try with_reducible rfl)
    try simp only [Act.put, List.setIfInBounds_toArray, List.set_cons_zero, List.set_cons_succ]
    refine wpAnyH_take (i := 6) (oi := { dst := some 34, op := Op.convert 22 3 (Operand.tmp 33), type := 3, pos := "top03_wt47d.go:67", after := #[{ on := 5, ground := Ground.data }], guard := none }) (v := ?_) rfl (by kernel_rfl) (by kernel_rfl) (by kernel_rfl) (fun _ _ _ h => h) (Or.inl ⟨by rfl, ?_⟩) (by assumption) ?_
    rotate_left
    · (intro w hSw; (try dsimp only at hSw); go_simp); (try with_reducible rfl)
    try simp only [Act.put, List.setIfInBounds_toArray, List.set_cons_zero, List.set_cons_succ]
    refine wpAnyH_take (i := 7) (oi := { dst := some 35, op := Op.binOp BinOp.rem 3 (Operand.tmp 34) (Operand.const (Value.int IntKind.i64 4)) 3, type := 3, pos := "top03_wt47d.go:67", after := #[{ on := 6, ground := Ground.data }], guard := none }) (v := ?_) rfl (by kernel_rfl) (by kernel_rfl) (by kernel_rfl) (fun _ _ _ h => h) (Or.inl ⟨by rfl, ?_⟩) (by assumption) ?_
    rotate_left
    · (intro w hSw; (try dsimp only at hSw); go_simp); (try with_reducible rfl)
    try simp only [Act.put, List.setIfInBounds_toArray, List.set_cons_zero, List.set_cons_succ]
    refine wpAnyH_take (i := 8) (oi := { dst := some 36, op := Op.binOp BinOp.add 3 (Operand.tmp 35) (Operand.const (Value.int IntKind.i64 4)) 3, type := 3, pos := "top03_wt47d.go:67", after := #[{ on := 7, ground := Ground.data }], guard := none }) (v := ?_) rfl (by kernel_rfl) (by kernel_rfl) (by kernel_rfl) (fun _ _ _ h => h) (Or.inl ⟨by rfl, ?_⟩) (by assumption) ?_
    rotate_left
    · (intro w hSw; (try dsimp only at hSw); go_simp); (try with_reducible rfl)
    try simp only [Act.put, List.setIfInBounds_toArray, List.set_cons_zero, List.set_cons_succ]
    refine wpAnyH_take (i := 9) (oi := { dst := some 37, op := Op.binOp BinOp.rem 3 (Operand.tmp 36) (Operand.const (Value.int IntKind.i64 4)) 3, type := 3, pos := "top03_wt47d.go:67", after := #[{ on := 8, ground := Ground.data }], guard := none }) (v := ?_) rfl (by kernel_rfl) (by kernel_rfl) (by kernel_rfl) (fun _ _ _ h => h) (Or.inl ⟨by rfl, ?_⟩) (by assumption) ?_
    rotate_left
    · (intro w hSw; (try dsimp only at hSw); go_simp); (try with_reducible rfl)
    try simp only [Act.put, List.setIfInBounds_toArray, List.set_cons_zero, List.set_cons_succ]
    refine wpAnyH_take (i := 10) (oi := { dst := some 38, op := Op.binOp BinOp.add 3 (Operand.const (Value.int IntKind.i64 1)) (Operand.tmp 37) 3, type := 3, pos := "top03_wt47d.go:67", after := #[{ on := 9, ground := Ground.data }], guard := none }) (v := ?_) rfl (by kernel_rfl) (by kernel_rfl) (by kernel_rfl) (fun _ _ _ h => h) (Or.inl ⟨by rfl, ?_⟩) (by assumption) ?_
    rotate_left
    · (intro w hSw; (try dsimp only at hSw); go_simp); (try with_reducible rfl)
    try simp only [Act.put, List.setIfInBounds_toArray, List.set_cons_zero, List.set_cons_succ]
    refine wpAnyH_take (i := 12) (oi := { dst := some 40, op := Op.indexAddr 23 (Operand.tmp 4) (Operand.const (Value.int IntKind.i64 0)), type := 0, pos := "top03_wt47d.go:67", after := #[{ on := 24, ground := Ground.gcOnly Departure.lateStores }], guard := none }) (v := ?_) rfl (by kernel_rfl) (by kernel_rfl) (by kernel_rfl) (fun _ _ _ h => h) (Or.inl ⟨by rfl, ?_⟩) (by assumption) ?_
    rotate_left
    · (intro w hSw; (try dsimp only at hSw); go_simp); (try with_reducible rfl)
    try simp only [Act.put, List.setIfInBounds_toArray, List.set_cons_zero, List.set_cons_succ]
    refine wpAnyH_take (i := 13) (oi := { dst := some 41, op := Op.load 22 (Operand.tmp 40), type := 22, pos := "top03_wt47d.go:67", after := #[{ on := 12, ground := Ground.data }, { on := 24, ground := Ground.gcOnly Departure.lateStores }], guard := none }) (v := ?_) rfl (by kernel_rfl) (by kernel_rfl) (by kernel_rfl) (fun _ _ _ h => h) (Or.inl ⟨by rfl, ?_⟩) (by assumption) ?_
    rotate_left
    · (intro w hSw; (try dsimp only at hSw); go_simp); (try with_reducible rfl)
    try simp only [Act.put, List.setIfInBounds_toArray, List.set_cons_zero, List.set_cons_succ]
    refine wpAnyH_take (i := 14) (oi := { dst := some 42, op := Op.convert 22 3 (Operand.tmp 41), type := 3, pos := "top03_wt47d.go:67", after := #[{ on := 13, ground := Ground.data }, { on := 24, ground := Ground.gcOnly Departure.lateStores }], guard := none }) (v := ?_) rfl (by kernel_rfl) (by kernel_rfl) (by kernel_rfl) (fun _ _ _ h => h) (Or.inl ⟨by rfl, ?_⟩) (by assumption) ?_
    rotate_left
    · (intro w hSw; (try dsimp only at hSw); go_simp); (try with_reducible rfl)
    try simp only [Act.put, List.setIfInBounds_toArray, List.set_cons_zero, List.set_cons_succ]
    refine wpAnyH_take (i := 15) (oi := { dst := some 43, op := Op.binOp BinOp.rem 3 (Operand.tmp 42) (Operand.const (Value.int IntKind.i64 5)) 3, type := 3, pos := "top03_wt47d.go:67", after := #[{ on := 14, ground := Ground.data }, { on := 24, ground := Ground.gcOnly Departure.lateStores }], guard := none }) (v := ?_) rfl (by kernel_rfl) (by kernel_rfl) (by kernel_rfl) (fun _ _ _ h => h) (Or.inl ⟨by rfl, ?_⟩) (by assumption) ?_
    rotate_left
    · (intro w hSw; (try dsimp only at hSw); go_simp); (try with_reducible rfl)
    try simp only [Act.put, List.setIfInBounds_toArray, List.set_cons_zero, List.set_cons_succ]
    refine wpAnyH_take (i := 16) (oi := { dst := some 44, op := Op.indexAddr 23 (Operand.tmp 4) (Operand.const (Value.int IntKind.i64 1)), type := 0, pos := "top03_wt47d.go:67", after := #[{ on := 24, ground := Ground.gcOnly Departure.lateStores }], guard := none }) (v := ?_) rfl (by kernel_rfl) (by kernel_rfl) (by kernel_rfl) (fun _ _ _ h => h) (Or.inl ⟨by rfl, ?_⟩) (by assumption) ?_
    rotate_left
    · (intro w hSw; (try dsimp only at hSw); go_simp); (try with_reducible rfl)
    try simp only [Act.put, List.setIfInBounds_toArray, List.set_cons_zero, List.set_cons_succ]
    refine wpAnyH_take (i := 17) (oi := { dst := some 45, op := Op.load 22 (Operand.tmp 44), type := 22, pos := "top03_wt47d.go:67", after := #[{ on := 16, ground := Ground.data }, { on := 24, ground := Ground.gcOnly Departure.lateStores }], guard := none }) (v := ?_) rfl (by kernel_rfl) (by kernel_rfl) (by kernel_rfl) (fun _ _ _ h => h) (Or.inl ⟨by rfl, ?_⟩) (by assumption) ?_
    rotate_left
    · (intro w hSw; (try dsimp only at hSw); go_simp); (try with_reducible rfl)
    try simp only [Act.put, List.setIfInBounds_toArray, List.set_cons_zero, List.set_cons_succ]
    refine wpAnyH_take (i := 18) (oi := { dst := some 46, op := Op.convert 22 3 (Operand.tmp 45), type := 3, pos := "top03_wt47d.go:67", after := #[{ on := 17, ground := Ground.data }, { on := 24, ground := Ground.gcOnly Departure.lateStores }], guard := none }) (v := ?_) rfl (by kernel_rfl) (by kernel_rfl) (by kernel_rfl) (fun _ _ _ h => h) (Or.inl ⟨by rfl, ?_⟩) (by assumption) ?_
    rotate_left
    · (intro w hSw; (try dsimp only at hSw); go_simp); (try with_reducible rfl)
    try simp only [Act.put, List.setIfInBounds_toArray, List.set_cons_zero, List.set_cons_succ]
    refine wpAnyH_take (i := 19) (oi := { dst := some 47, op := Op.binOp BinOp.rem 3 (Operand.tmp 46) (Operand.const (Value.int IntKind.i64 4)) 3, type := 3, pos := "top03_wt47d.go:67", after := #[{ on := 18, ground := Ground.data }, { on := 24, ground := Ground.gcOnly Departure.lateStores }], guard := none }) (v := ?_) rfl (by kernel_rfl) (by kernel_rfl) (by kernel_rfl) (fun _ _ _ h => h) (Or.inl ⟨by rfl, ?_⟩) (by assumption) ?_
    rotate_left
    · (intro w hSw; (try dsimp only at hSw); go_simp); (try with_reducible rfl)
    try simp only [Act.put, List.setIfInBounds_toArray, List.set_cons_zero, List.set_cons_succ]
    refine wpAnyH_take (i := 20) (oi := { dst := some 48, op := Op.binOp BinOp.add 3 (Operand.tmp 47) (Operand.const (Value.int IntKind.i64 4)) 3, type := 3, pos := "top03_wt47d.go:67", after := #[{ on := 19, ground := Ground.data }, { on := 24, ground := Ground.gcOnly Departure.lateStores }], guard := none }) (v := ?_) rfl (by kernel_rfl) (by kernel_rfl) (by kernel_rfl) (fun _ _ _ h => h) (Or.inl ⟨by rfl, ?_⟩) (by assumption) ?_
    rotate_left
    · (intro w hSw; (try dsimp only at hSw); go_simp); (try with_reducible rfl)
    try simp only [Act.put, List.setIfInBounds_toArray, List.set_cons_zero, List.set_cons_succ]
    refine wpAnyH_take (i := 21) (oi := { dst := some 49, op := Op.binOp BinOp.rem 3 (Operand.tmp 48) (Operand.const (Value.int IntKind.i64 4)) 3, type := 3, pos := "top03_wt47d.go:67", after := #[{ on := 20, ground := Ground.data }, { on := 24, ground := Ground.gcOnly Departure.lateStores }], guard := none }) (v := ?_) rfl (by kernel_rfl) (by kernel_rfl) (by kernel_rfl) (fun _ _ _ h => h) (Or.inl ⟨by rfl, ?_⟩) (by assumption) ?_
    rotate_left
    · (intro w hSw; (try dsimp only at hSw); go_simp); (try with_reducible rfl)
    try simp only [Act.put, List.setIfInBounds_toArray, List.set_cons_zero, List.set_cons_succ]
    refine wpAnyH_take (i := 22) (oi := { dst := some 50, op := Op.binOp BinOp.add 3 (Operand.const (Value.int IntKind.i64 1)) (Operand.tmp 49) 3, type := 3, pos := "top03_wt47d.go:67", after := #[{ on := 21, ground := Ground.data }, { on := 24, ground := Ground.gcOnly Departure.lateStores }], guard := none }) (v := ?_) rfl (by kernel_rfl) (by kernel_rfl) (by kernel_rfl) (fun _ _ _ h => h) (Or.inl ⟨by rfl, ?_⟩) (by assumption) ?_
    rotate_left
    · (intro w hSw; (try dsimp only at hSw); go_simp); (try with_reducible rfl)
    try simp only [Act.put, List.setIfInBounds_toArray, List.set_cons_zero, List.set_cons_succ]
    refine wpAnyH_ready (rs := [11, 23]) (by kernel_rfl) (by simp) ?_
    refine (AllReadyH.cons (o := { dst := some 39, op := Op.buildSlice 24 2 #[(0, Operand.tmp 31), (1, Operand.tmp 38)], type := 24, pos := "top03_wt47d.go:67", after := #[{ on := 3, ground := Ground.data }, { on := 10, ground := Ground.data }], guard := none }) rfl (fun K hK => ?_) (AllReadyH.cons (o := { dst := some 51, op := Op.buildSlice 24 2 #[(0, Operand.tmp 43), (1, Operand.tmp 50)], type := 24, pos := "top03_wt47d.go:67", after := #[{ on := 15, ground := Ground.data }, { on := 22, ground := Ground.data }, { on := 24, ground := Ground.gcOnly Departure.lateStores }], guard := none }) rfl (fun K hK => ?_) AllReadyH.nil))
    · go_simp
      refine hK.out _ _ ?_ (fun hHeld1 => ?_)
      · (try dsimp only); go_keep
      clear hK K hHeld0
      try simp only [Act.put, List.setIfInBounds_toArray, List.set_cons_zero, List.set_cons_succ]
      refine wpAnyH_take (i := 24) (oi := { dst := some 7, op := Op.assign (Operand.tmp 39), type := 24, pos := "top03_wt47d.go:67", after := #[{ on := 11, ground := Ground.data }, { on := 0, ground := Ground.phase }, { on := 1, ground := Ground.phase }, { on := 2, ground := Ground.phase }, { on := 3, ground := Ground.phase }, { on := 4, ground := Ground.phase }, { on := 5, ground := Ground.phase }, { on := 6, ground := Ground.phase }, { on := 7, ground := Ground.phase }, { on := 8, ground := Ground.phase }, { on := 9, ground := Ground.phase }, { on := 10, ground := Ground.phase }, { on := 11, ground := Ground.phase }, { on := 12, ground := Ground.textOnly Departure.lateStores }, { on := 13, ground := Ground.textOnly Departure.lateStores }, { on := 14, ground := Ground.textOnly Departure.lateStores }, { on := 15, ground := Ground.textOnly Departure.lateStores }, { on := 16, ground := Ground.textOnly Departure.lateStores }, { on := 17, ground := Ground.textOnly Departure.lateStores }, { on := 18, ground := Ground.textOnly Departure.lateStores }, { on := 19, ground := Ground.textOnly Departure.lateStores }, { on := 20, ground := Ground.textOnly Departure.lateStores }, { on := 21, ground := Ground.textOnly Departure.lateStores }, { on := 22, ground := Ground.textOnly Departure.lateStores }, { on := 23, ground := Ground.textOnly Departure.lateStores }], guard := none }) (v := ?_) rfl (by kernel_rfl) (by kernel_rfl) (by kernel_rfl) (fun _ _ _ h => h) (Or.inl ⟨by rfl, ?_⟩) (by assumption) ?_
      rotate_left
      · (intro w hSw; (try dsimp only at hSw); go_simp); (try with_reducible rfl)
      try simp only [Act.put, List.setIfInBounds_toArray, List.set_cons_zero, List.set_cons_succ]
      refine wpAnyH_ready (rs := [23]) (by kernel_rfl) (by simp) ?_
      refine (AllReadyH.cons (o := { dst := some 51, op := Op.buildSlice 24 2 #[(0, Operand.tmp 43), (1, Operand.tmp 50)], type := 24, pos := "top03_wt47d.go:67", after := #[{ on := 15, ground := Ground.data }, { on := 22, ground := Ground.data }, { on := 24, ground := Ground.gcOnly Departure.lateStores }], guard := none }) rfl (fun K hK => ?_) AllReadyH.nil)
      go_simp
      refine hK.out _ _ ?_ (fun hHeld2 => ?_)
      · (try dsimp only); go_keep
      clear hK K hHeld1
      try simp only [Act.put, List.setIfInBounds_toArray, List.set_cons_zero, List.set_cons_succ]
      refine wpAnyH_take (i := 25) (oi := { dst := some 8, op := Op.assign (Operand.tmp 51), type := 24, pos := "top03_wt47d.go:67", after := #[{ on := 23, ground := Ground.data }, { on := 24, ground := Ground.chain }, { on := 0, ground := Ground.phase }, { on := 1, ground := Ground.phase }, { on := 2, ground := Ground.phase }, { on := 3, ground := Ground.phase }, { on := 4, ground := Ground.phase }, { on := 5, ground := Ground.phase }, { on := 6, ground := Ground.phase }, { on := 7, ground := Ground.phase }, { on := 8, ground := Ground.phase }, { on := 9, ground := Ground.phase }, { on := 10, ground := Ground.phase }, { on := 11, ground := Ground.phase }, { on := 12, ground := Ground.phase }, { on := 13, ground := Ground.phase }, { on := 14, ground := Ground.phase }, { on := 15, ground := Ground.phase }, { on := 16, ground := Ground.phase }, { on := 17, ground := Ground.phase }, { on := 18, ground := Ground.phase }, { on := 19, ground := Ground.phase }, { on := 20, ground := Ground.phase }, { on := 21, ground := Ground.phase }, { on := 22, ground := Ground.phase }, { on := 23, ground := Ground.phase }, { on := 24, ground := Ground.phase }], guard := none }) (v := ?_) rfl (by kernel_rfl) (by kernel_rfl) (by kernel_rfl) (fun _ _ _ h => h) (Or.inl ⟨by rfl, ?_⟩) (by assumption) ?_
      rotate_left
      · (intro w hSw; (try dsimp only at hSw); go_simp); (try with_reducible rfl)
      try simp only [Act.put, List.setIfInBounds_toArray, List.set_cons_zero, List.set_cons_succ]
      refine wpAnyH_done (by kernel_rfl) ?_ _
      clear hHeld2
      (go_wp2_with fail; go_meet; first | exact ⟨wA a0, wB a1, wA b0, wB b1, wA_bd _, wB_bd _, wA_bd _, wB_bd _, ((Ints.new W 3 [wA a0, wB a1] 2 W.heap.size _ rfl rfl rfl).alloc _).drew, (Ints.new (W.alloc (.cells #[.int .i64 (wA a0), .int .i64 (wB a1)] 3)) 3 [wA b0, wB b1] 2 (W.heap.size + 1) _ (by simp) rfl rfl).drew, (bthen (below_new _ _) (below_new _ _)).drew⟩ | exact ⟨wA a0, wB a1, wA b0, wB b1, wA_bd _, wB_bd _, wA_bd _, wB_bd _, (Ints.new (W.alloc (.cells #[.int .i64 (wA b0), .int .i64 (wB b1)] 3)) 3 [wA a0, wB a1] 2 (W.heap.size + 1) _ (by simp) rfl rfl).drew, ((Ints.new W 3 [wA b0, wB b1] 2 W.heap.size _ rfl rfl rfl).alloc _).drew, (bthen (below_new _ _) (below_new _ _)).drew⟩)
    · go_simp
      refine hK.out _ _ ?_ (fun hHeld1 => ?_)
      · (try dsimp only); go_keep
      clear hK K hHeld0
      try simp only [Act.put, List.setIfInBounds_toArray, List.set_cons_zero, List.set_cons_succ]
      refine wpAnyH_ready (rs := [11]) (by kernel_rfl) (by simp) ?_
      refine (AllReadyH.cons (o := { dst := some 39, op := Op.buildSlice 24 2 #[(0, Operand.tmp 31), (1, Operand.tmp 38)], type := 24, pos := "top03_wt47d.go:67", after := #[{ on := 3, ground := Ground.data }, { on := 10, ground := Ground.data }], guard := none }) rfl (fun K hK => ?_) AllReadyH.nil)
      go_simp
      refine hK.out _ _ ?_ (fun hHeld2 => ?_)
      · (try dsimp only); go_keep
      clear hK K hHeld1
      try simp only [Act.put, List.setIfInBounds_toArray, List.set_cons_zero, List.set_cons_succ]
      refine wpAnyH_take (i := 24) (oi := { dst := some 7, op := Op.assign (Operand.tmp 39), type := 24, pos := "top03_wt47d.go:67", after := #[{ on := 11, ground := Ground.data }, { on := 0, ground := Ground.phase }, { on := 1, ground := Ground.phase }, { on := 2, ground := Ground.phase }, { on := 3, ground := Ground.phase }, { on := 4, ground := Ground.phase }, { on := 5, ground := Ground.phase }, { on := 6, ground := Ground.phase }, { on := 7, ground := Ground.phase }, { on := 8, ground := Ground.phase }, { on := 9, ground := Ground.phase }, { on := 10, ground := Ground.phase }, { on := 11, ground := Ground.phase }, { on := 12, ground := Ground.textOnly Departure.lateStores }, { on := 13, ground := Ground.textOnly Departure.lateStores }, { on := 14, ground := Ground.textOnly Departure.lateStores }, { on := 15, ground := Ground.textOnly Departure.lateStores }, { on := 16, ground := Ground.textOnly Departure.lateStores }, { on := 17, ground := Ground.textOnly Departure.lateStores }, { on := 18, ground := Ground.textOnly Departure.lateStores }, { on := 19, ground := Ground.textOnly Departure.lateStores }, { on := 20, ground := Ground.textOnly Departure.lateStores }, { on := 21, ground := Ground.textOnly Departure.lateStores }, { on := 22, ground := Ground.textOnly Departure.lateStores }, { on := 23, ground := Ground.textOnly Departure.lateStores }], guard := none }) (v := ?_) rfl (by kernel_rfl) (by kernel_rfl) (by kernel_rfl) (fun _ _ _ h => h) (Or.inl ⟨by rfl, ?_⟩) (by assumption) ?_
      rotate_left
      · (intro w hSw; (try dsimp only at hSw); go_simp); (try with_reducible rfl)
      try simp only [Act.put, List.setIfInBounds_toArray, List.set_cons_zero, List.set_cons_succ]
      refine wpAnyH_take (i := 25) (oi := { dst := some 8, op := Op.assign (Operand.tmp 51), type := 24, pos := "top03_wt47d.go:67", after := #[{ on := 23, ground := Ground.data }, { on := 24, ground := Ground.chain }, { on := 0, ground := Ground.phase }, { on := 1, ground := Ground.phase }, { on := 2, ground := Ground.phase }, { on := 3, ground := Ground.phase }, { on := 4, ground := Ground.phase }, { on := 5, ground := Ground.phase }, { on := 6, ground := Ground.phase }, { on := 7, ground := Ground.phase }, { on := 8, ground := Ground.phase }, { on := 9, ground := Ground.phase }, { on := 10, ground := Ground.phase }, { on := 11, ground := Ground.phase }, { on := 12, ground := Ground.phase }, { on := 13, ground := Ground.phase }, { on := 14, ground := Ground.phase }, { on := 15, ground := Ground.phase }, { on := 16, ground := Ground.phase }, { on := 17, ground := Ground.phase }, { on := 18, ground := Ground.phase }, { on := 19, ground := Ground.phase }, { on := 20, ground := Ground.phase }, { on := 21, ground := Ground.phase }, { on := 22, ground := Ground.phase }, { on := 23, ground := Ground.phase }, { on := 24, ground := Ground.phase }], guard := none }) (v := ?_) rfl (by kernel_rfl) (by kernel_rfl) (by kernel_rfl) (fun _ _ _ h => h) (Or.inl ⟨by rfl, ?_⟩) (by assumption) ?_
      rotate_left
      · (intro w hSw; (try dsimp only at hSw); go_simp); (try with_reducible rfl)
      try simp only [Act.put, List.setIfInBounds_toArray, List.set_cons_zero, List.set_cons_succ]
      refine wpAnyH_done (by kernel_rfl) ?_ _
      clear hHeld2
      (go_wp2_with fail; go_meet; first | exact ⟨wA a0, wB a1, wA b0, wB b1, wA_bd _, wB_bd _, wA_bd _, wB_bd _, ((Ints.new W 3 [wA a0, wB a1] 2 W.heap.size _ rfl rfl rfl).alloc _).drew, (Ints.new (W.alloc (.cells #[.int .i64 (wA a0), .int .i64 (wB a1)] 3)) 3 [wA b0, wB b1] 2 (W.heap.size + 1) _ (by simp) rfl rfl).drew, (bthen (below_new _ _) (below_new _ _)).drew⟩ | exact ⟨wA a0, wB a1, wA b0, wB b1, wA_bd _, wB_bd _, wA_bd _, wB_bd _, (Ints.new (W.alloc (.cells #[.int .i64 (wA b0), .int .i64 (wB b1)] 3)) 3 [wA a0, wB a1] 2 (W.heap.size + 1) _ (by simp) rfl rfl).drew, ((Ints.new W 3 [wA b0, wB b1] 2 W.heap.size _ rfl rfl rfl).alloc _).drew, (bthen (below_new _ _) (below_new _ _)).drew⟩)
  case rest =>
    obtain ⟨p0, p1, q0, q1, hp0, hp1, hq0, hq1, hip, hiq, hb1⟩ := hcut
    have hbw : Below w.heap.size w wc := bthen hB hb1
    clear hb1 hB
    have hip' := hip
    have hiq' := hiq
    obtain ⟨bp, op, cp, rfl, hcp⟩ := hip'.head (by simp)
    obtain ⟨bq, oq, cq, rfl, hcq⟩ := hiq'.head (by simp)
    clear hip' hiq' hcp hcq x0 x1 y0 y1
    simp only [List.length_cons, List.length_nil, Nat.zero_add, Nat.reduceAdd] at hip hiq ⊢
    obtain ⟨i0, hi, hz0, hz1, hz2⟩ := info_parts Try.infoInt
    have hfact := fact_of hp0 hp1 hq0 hq1
    simp only [factB, Bool.and_eq_true, beq_iff_eq, List.all_eq_true, List.mem_range] at hfact
    obtain ⟨⟨⟨fE, fR⟩, fC⟩, fV⟩ := hfact
    have HFV := Lib.hid fV
    have HFC := Lib.hid fC
    clear fV
    go_wp2_with (first | (at_builtin; refine wpList_append_fresh rfl (.tmp 53) (.tmp 54) 25 24 3 3 rfl i0 (.int .i64 0) Try.underlying25 Try.underlying24 hi hz0 hz1 hz2 wc.heap.size 0 rfl _ [p0, p1] rfl (hip.alloc _) (by simp) ?_; intro b1 o1 c1 w1 hi1 hl1; have hb1 := bthen (below_new wc (.cells #[] 3)) hl1) | (at_builtin; refine wpList_append_fresh rfl (.tmp 56) (.tmp 57) 25 24 3 3 rfl i0 (.int .i64 0) Try.underlying25 Try.underlying24 hi hz0 hz1 hz2 w1.heap.size 0 rfl _ [q0, q1] rfl ((hiq.below hb1).alloc _) (by simp) ?_; intro b2 o2 c2 w2 hi2 hl2; have hb2 := bthen (below_new w1 (.cells #[] 3)) hl2))
    have tp := Product_any _ _ [p0, p1] [q0, q1] w2 (hi1.below hb2) hi2 (by simp) (by simp)
    rw [fE, fR] at tp
    refine tp.mono ?_
    clear tp hi1 hi2 hl1 hl2
    rintro e w3 ⟨⟨u, rfl, hu⟩, h3⟩
    have hb3 := bthen (bthen hb1 hb2) h3
    have hbw3 := bthen hbw hb3
    have hip := hip.below hb3
    have hiq := hiq.below hb3
    clear hb1 hb2 h3 hb3 hbw fE fR
    have hu' := hu
    obtain ⟨bm, om, cm, rfl, _⟩ := hu'.head (by simp [mulP])
    clear hu'
    have tr := CheckPolyR_any _ _ w3 hu (by simp [mulP])
    rw [fC] at tr
    simp only [mulP, List.length_cons, List.length_nil, Nat.zero_add, Nat.reduceAdd] at tr
    have hu2 : Ints w3 (.slice (some ⟨bm, om, none⟩) 3 cm) (mulP p0 p1 q0 q1) := hu
    clear hu
    simp only [mulP, List.length_cons, List.length_nil, Nat.zero_add, Nat.reduceAdd]
    go_wp2_with (go_at_call 6; refine tr.mono ?_; rintro e w' ⟨rfl, rfl⟩; clear tr)
    refine (Quarters_any _).mono ?_
    rintro e w' ⟨rfl, rfl⟩
    have hQ : ∀ k, k < 4 → (w3.alloc (.cells #[.int .i64 1, .int .i64 0, .int .i64 0, .int .i64 1, .int .i64 (-1), .int .i64 0, .int .i64 0, .int .i64 (-1)] 33)).cell? ⟨w3.heap.size, k * 2, none⟩ = some (.int .i64 (qrt k).1) ∧ (w3.alloc (.cells #[.int .i64 1, .int .i64 0, .int .i64 0, .int .i64 1, .int .i64 (-1), .int .i64 0, .int .i64 0, .int .i64 (-1)] 33)).cell? ⟨w3.heap.size, k * 2 + 1, none⟩ = some (.int .i64 (qrt k).2) := fun k hk => by
      rw [cell_new, cell_new]
      match k, hk with
      | 0, _ => exact ⟨rfl, rfl⟩
      | 1, _ => exact ⟨rfl, rfl⟩
      | 2, _ => exact ⟨rfl, rfl⟩
      | 3, _ => exact ⟨rfl, rfl⟩
    have hbq := below_new w3 (.cells #[.int .i64 1, .int .i64 0, .int .i64 0, .int .i64 1, .int .i64 (-1), .int .i64 0, .int .i64 0, .int .i64 (-1)] 33)
    obtain ⟨wq, hwq⟩ : ∃ wq, wq = w3.alloc (.cells #[.int .i64 1, .int .i64 0, .int .i64 0, .int .i64 1, .int .i64 (-1), .int .i64 0, .int .i64 0, .int .i64 (-1)] 33) := ⟨_, rfl⟩
    rw [← hwq] at hQ hbq ⊢
    clear hwq
    have hip := hip.below hbq
    have hiq := hiq.below hbq
    have him := hu2.below hbq
    have hbwq := bthen hbw3 hbq
    generalize w3.heap.size = Z at hQ
    clear hu2 hbw3 hbq
    go_wp2
    go_loopw [76] (fun i wr => ∃ k : Nat, k ≤ 4 ∧ i = .int .i64 k ∧ Below wq.heap.size wq wr) (fun i _ => 4 - (intOf i).toNat)
    case atStart => exact ⟨0, by omega, rfl, Below.refl _ _⟩
    case round =>
      obtain ⟨k, hk, rfl, hbr⟩ := hrel
      by_cases hlt : k < 4
      · obtain ⟨q1', q2'⟩ := hQ k hlt
        have d0 := cellb q1' hbr
        have d1 := cellb q2' hbr
        clear q1' q2' hQ
        have HV := Lib.hid (HFV.out k hlt)
        generalize qrt k = z at d0 d1 HV
        have hE8 : valueE (mulP p0 p1 q0 q1) z.1 z.2 = 0 := HV.out.1.1.1
        have HE8 := Lib.hid hE8
        clear hE8
        obtain ⟨y8, hy8⟩ : ∃ y, y = valueR (mulP p0 p1 q0 q1) z.1 z.2 := ⟨_, rfl⟩
        have HY8 := Lib.hid hy8
        clear hy8
        go_upto_region 8 with fail
        obtain ⟨wx, hwx⟩ : ∃ wx, wx = wr.alloc (.cells #[.int .i64 z.1, .int .i64 z.2] 33) := ⟨_, rfl⟩
        have zb : Box2 wx wr.heap.size (.int .i64 z.1) (.int .i64 z.2) := by rw [hwx]; exact Box2.new _ _ _ _
        have hbx : Below wq.heap.size wq wx := by rw [hwx]; exact bthen hbr (below_new _ _)
        rw [← hwx]
        clear hwx
        have himx := him.carry hbx
        have hipx := hip.carry hbx
        have hiqx := hiq.carry hbx
        have zb' := zb
        obtain ⟨e0, e1, _, _⟩ := zb'
        go_cut [13, 14] (fun va vb wn => ∃ B, va = .pointer (some ⟨B, 0, none⟩) ∧ Box2 wn B (.int .i64 y8.1) (.int .i64 y8.2) ∧ vb = .int .i64 0 ∧ Below wx.heap.size wx wn)
        case first =>
          refine wp_region_held_drew (S := (fun w' => w'.cell? ⟨wr.heap.size, 0, none⟩ = some (.int .i64 z.1) ∧ w'.cell? ⟨wr.heap.size, 1, none⟩ = some (.int .i64 z.2))) (by kernel_rfl) ⟨cellb e0 (Below.refl _ _).drew, cellb e1 (Below.refl _ _).drew⟩ (fun hHeld0 => ?_)
          obtain ⟨wzd, hwz⟩ : ∃ v, v = wx.drew := ⟨_, rfl⟩
          rw [← hwz] at hHeld0 ⊢
          have hbzd : Below wx.heap.size wx wzd := by rw [hwz]; exact (Below.refl _ _).drew
          clear hwz
          refine wpAnyH_take (i := 1) (oi := { dst := some 82, op := Op.move (Operand.tmp 9), type := 25, pos := "top03_wt47d.go:73", after := #[], guard := none }) (v := ?_) rfl (by kernel_rfl) (by kernel_rfl) (by kernel_rfl) (fun _ _ _ h => h) (Or.inl ⟨by rfl, ?_⟩) (by assumption) ?_
          rotate_left
          · (intro w hSw; (try dsimp only at hSw); go_simp); (try with_reducible rfl)
          try simp only [Act.put, List.setIfInBounds_toArray, List.set_cons_zero, List.set_cons_succ]
          refine wpAnyH_take (i := 3) (oi := { dst := some 84, op := Op.load 33 (Operand.tmp 12), type := 33, pos := "top03_wt47d.go:73", after := #[], guard := none }) (v := ?_) rfl (by kernel_rfl) (by kernel_rfl) (by kernel_rfl) (fun _ _ _ h => h) (Or.inl ⟨by rfl, ?_⟩) (by assumption) ?_
          rotate_left
          · (intro w hSw; (try dsimp only at hSw); go_simp); (try with_reducible rfl)
          try simp only [Act.put, List.setIfInBounds_toArray, List.set_cons_zero, List.set_cons_succ]
          refine wpAnyH_ready (rs := [0, 8]) (by kernel_rfl) (by simp) ?_
          refine (AllReadyH.cons (o := { dst := some 81, op := Op.buildSlice 25 0 #[], type := 25, pos := "top03_wt47d.go:73", after := #[], guard := none }) rfl (fun K hK => ?_) (AllReadyH.cons (o := { dst := some 13, op := Op.alloc 33, type := 0, pos := "top03_wt47d.go:73", after := #[], guard := none }) rfl (fun K hK => ?_) AllReadyH.nil))
          · go_simp
            obtain ⟨wz0, hwz⟩ : ∃ v, v = wzd.alloc (Obj.cells #[] 3) := ⟨_, rfl⟩
            rw [← hwz]
            have hl : Below wzd.heap.size wzd wz0 := by rw [hwz]; exact below_new _ _
            have hbz0 := bthen hbzd hl
            clear hwz
            clear hl
            refine hK.out _ _ ⟨cellb e0 hbz0, cellb e1 hbz0⟩ (fun hHeld1 => ?_)
            clear hK K hHeld0
            try simp only [Act.put, List.setIfInBounds_toArray, List.set_cons_zero, List.set_cons_succ]
            refine wpAnyH_ready (rs := [2, 8]) (by kernel_rfl) (by simp) ?_
            refine (AllReadyH.cons (o := { dst := some 83, op := Op.call { callee := Callee.builtin Builtin.append, args := #[Operand.tmp 81, Operand.tmp 82], argTypes := #[25, 25] }, type := 25, pos := "top03_wt47d.go:73", after := #[{ on := 0, ground := Ground.data }, { on := 1, ground := Ground.data }], guard := none }) rfl (fun K hK => ?_) (AllReadyH.cons (o := { dst := some 13, op := Op.alloc 33, type := 0, pos := "top03_wt47d.go:73", after := #[], guard := none }) rfl (fun K hK => ?_) AllReadyH.nil))
            · rw [if_pos (by rfl)]
              refine wp_append_fresh (.tmp 81) (.tmp 82) 25 25 3 3 rfl i0 (.int .i64 0) Try.underlying25 Try.underlying25 hi hz0 hz1 hz2 _ 0 rfl _ (mulP p0 p1 q0 q1) rfl (himx.carry hbz0) (by simp [mulP]) ?_
              intro ba oa ca wz2 hia hl
              have hbz2 := bthen hbz0 hl
              clear hl
              refine hK.out _ _ ⟨cellb e0 hbz2, cellb e1 hbz2⟩ (fun hHeld2 => ?_)
              clear hK K hHeld1
              try simp only [Act.put, List.setIfInBounds_toArray, List.set_cons_zero, List.set_cons_succ]
              refine wpAnyH_ready (rs := [4, 8]) (by kernel_rfl) (by simp) ?_
              refine (AllReadyH.cons (o := { dst := some 85, op := Op.call { callee := Callee.value (Operand.func 8), args := #[Operand.tmp 83, Operand.tmp 84], argTypes := #[25, 33] }, type := 34, pos := "top03_wt47d.go:73", after := #[{ on := 2, ground := Ground.data }, { on := 3, ground := Ground.data }, { on := 2, ground := Ground.chain }], guard := none }) rfl (fun K hK => ?_) (AllReadyH.cons (o := { dst := some 13, op := Op.alloc 33, type := 0, pos := "top03_wt47d.go:73", after := #[], guard := none }) rfl (fun K hK => ?_) AllReadyH.nil))
              · go_simp
                have tv := Value_any _ (mulP p0 p1 q0 q1) z.1 z.2 wz2 hia (by simp [mulP])
                rw [HE8.out, ← HY8.out] at tv
                refine tv.mono ?_
                clear tv
                rintro e wz4 ⟨rfl, hl⟩
                (try go_wp2_with fail)
                have hbz4 := bthen hbz2 hl
                have hia := hia.carry hl
                clear hl
                refine hK.out _ _ ⟨cellb e0 hbz4, cellb e1 hbz4⟩ (fun hHeld3 => ?_)
                clear hK K hHeld2
                try simp only [Act.put, List.setIfInBounds_toArray, List.set_cons_zero, List.set_cons_succ]
                refine wpAnyH_take (i := 5) (oi := { dst := some 80, op := Op.move (Operand.tmp 85), type := 34, pos := "top03_wt47d.go:73", after := #[{ on := 4, ground := Ground.data }], guard := none }) (v := ?_) rfl (by kernel_rfl) (by kernel_rfl) (by kernel_rfl) (fun _ _ _ h => h) (Or.inl ⟨by rfl, ?_⟩) (by assumption) ?_
                rotate_left
                · (intro w hSw; (try dsimp only at hSw); go_simp); (try with_reducible rfl)
                try simp only [Act.put, List.setIfInBounds_toArray, List.set_cons_zero, List.set_cons_succ]
                refine wpAnyH_take (i := 6) (oi := { dst := some 86, op := Op.extract (Operand.tmp 80) 0, type := 33, pos := "top03_wt47d.go:73", after := #[{ on := 5, ground := Ground.data }], guard := none }) (v := ?_) rfl (by kernel_rfl) (by kernel_rfl) (by kernel_rfl) (fun _ _ _ h => h) (Or.inl ⟨by rfl, ?_⟩) (by assumption) ?_
                rotate_left
                · (intro w hSw; (try dsimp only at hSw); go_simp); (try with_reducible rfl)
                try simp only [Act.put, List.setIfInBounds_toArray, List.set_cons_zero, List.set_cons_succ]
                refine wpAnyH_take (i := 7) (oi := { dst := some 87, op := Op.extract (Operand.tmp 80) 1, type := 26, pos := "top03_wt47d.go:73", after := #[{ on := 5, ground := Ground.data }, { on := 9, ground := Ground.gcOnly Departure.lateStores }], guard := none }) (v := ?_) rfl (by kernel_rfl) (by kernel_rfl) (by kernel_rfl) (fun _ _ _ h => h) (Or.inl ⟨by rfl, ?_⟩) (by assumption) ?_
                rotate_left
                · (intro w hSw; (try dsimp only at hSw); go_simp); (try with_reducible rfl)
                try simp only [Act.put, List.setIfInBounds_toArray, List.set_cons_zero, List.set_cons_succ]
                refine wpAnyH_ready (rs := [8]) (by kernel_rfl) (by simp) ?_
                refine (AllReadyH.cons (o := { dst := some 13, op := Op.alloc 33, type := 0, pos := "top03_wt47d.go:73", after := #[], guard := none }) rfl (fun K hK => ?_) AllReadyH.nil)
                go_simp
                obtain ⟨wz8, hwz⟩ : ∃ v, v = wz4.alloc (Obj.cells #[.int .i64 0, .int .i64 0] 33) := ⟨_, rfl⟩
                rw [← hwz]
                have hl : Below wz4.heap.size wz4 wz8 := by rw [hwz]; exact below_new _ _
                have hbz8 := bthen hbz4 hl
                have bx : Box2 wz8 wz4.heap.size (.int .i64 0) (.int .i64 0) := by rw [hwz]; exact Box2.new _ _ _ _
                have hB : wx.heap.size ≤ wz4.heap.size := (hbz4).size
                generalize wz4.heap.size = B at bx hB ⊢
                clear hwz
                have hia := hia.carry hl
                clear hl
                refine hK.out _ _ ⟨cellb e0 hbz8, cellb e1 hbz8⟩ (fun hHeld4 => ?_)
                clear hK K hHeld3
                try simp only [Act.put, List.setIfInBounds_toArray, List.set_cons_zero, List.set_cons_succ]
                refine wpAnyH_ready (rs := [9]) (by kernel_rfl) (by simp) ?_
                refine (AllReadyH.cons (o := { dst := none, op := Op.store 33 (Operand.tmp 13) (Operand.tmp 86), type := 0, pos := "top03_wt47d.go:73", after := #[{ on := 8, ground := Ground.data }, { on := 6, ground := Ground.data }, { on := 4, ground := Ground.chain }, { on := 0, ground := Ground.phase }, { on := 1, ground := Ground.phase }, { on := 2, ground := Ground.phase }, { on := 3, ground := Ground.phase }, { on := 4, ground := Ground.phase }, { on := 5, ground := Ground.phase }, { on := 6, ground := Ground.phase }, { on := 7, ground := Ground.textOnly Departure.lateStores }, { on := 8, ground := Ground.phase }], guard := none }) rfl (fun K hK => ?_) AllReadyH.nil)
                have bx' := bx
                obtain ⟨bc0, bc1, bf0, bf1⟩ := bx'
                go_simp
                obtain ⟨wz9, hwz⟩ : ∃ v, v = (wz8.setCell ⟨B, 0, none⟩ (.int .i64 y8.1)).setCell ⟨B, 1, none⟩ (.int .i64 y8.2) := ⟨_, rfl⟩
                rw [← hwz]
                have hbz9 : Below wx.heap.size wx wz9 := by rw [hwz]; exact (hbz8.setCell hB _).setCell hB _
                have bx := bx.set (.int .i64 y8.1) (.int .i64 y8.2)
                rw [← hwz] at bx
                clear hwz
                refine hK.out _ _ ⟨cellb e0 hbz9, cellb e1 hbz9⟩ (fun hHeld5 => ?_)
                clear hK K hHeld4
                try simp only [Act.put, List.setIfInBounds_toArray, List.set_cons_zero, List.set_cons_succ]
                refine wpAnyH_take (i := 10) (oi := { dst := some 14, op := Op.assign (Operand.tmp 87), type := 26, pos := "top03_wt47d.go:73", after := #[{ on := 7, ground := Ground.data }, { on := 9, ground := Ground.chain }, { on := 0, ground := Ground.phase }, { on := 1, ground := Ground.phase }, { on := 2, ground := Ground.phase }, { on := 3, ground := Ground.phase }, { on := 4, ground := Ground.phase }, { on := 5, ground := Ground.phase }, { on := 6, ground := Ground.phase }, { on := 7, ground := Ground.phase }, { on := 8, ground := Ground.phase }, { on := 9, ground := Ground.phase }], guard := none }) (v := ?_) rfl (by kernel_rfl) (by kernel_rfl) (by kernel_rfl) (fun _ _ _ h => h) (Or.inl ⟨by rfl, ?_⟩) (by assumption) ?_
                rotate_left
                · (intro w hSw; (try dsimp only at hSw); go_simp); (try with_reducible rfl)
                try simp only [Act.put, List.setIfInBounds_toArray, List.set_cons_zero, List.set_cons_succ]
                refine wpAnyH_done (by kernel_rfl) ?_ _
                clear hHeld5
                go_wp2_with fail
                go_meet
                exact ⟨B, rfl, bx, rfl, hbz9⟩
              · go_simp
                obtain ⟨wz8, hwz⟩ : ∃ v, v = wz2.alloc (Obj.cells #[.int .i64 0, .int .i64 0] 33) := ⟨_, rfl⟩
                rw [← hwz]
                have hl : Below wz2.heap.size wz2 wz8 := by rw [hwz]; exact below_new _ _
                have hbz8 := bthen hbz2 hl
                have bx : Box2 wz8 wz2.heap.size (.int .i64 0) (.int .i64 0) := by rw [hwz]; exact Box2.new _ _ _ _
                have hB : wx.heap.size ≤ wz2.heap.size := (hbz2).size
                generalize wz2.heap.size = B at bx hB ⊢
                clear hwz
                have hia := hia.carry hl
                clear hl
                refine hK.out _ _ ⟨cellb e0 hbz8, cellb e1 hbz8⟩ (fun hHeld3 => ?_)
                clear hK K hHeld2
                try simp only [Act.put, List.setIfInBounds_toArray, List.set_cons_zero, List.set_cons_succ]
                refine wpAnyH_ready (rs := [4]) (by kernel_rfl) (by simp) ?_
                refine (AllReadyH.cons (o := { dst := some 85, op := Op.call { callee := Callee.value (Operand.func 8), args := #[Operand.tmp 83, Operand.tmp 84], argTypes := #[25, 33] }, type := 34, pos := "top03_wt47d.go:73", after := #[{ on := 2, ground := Ground.data }, { on := 3, ground := Ground.data }, { on := 2, ground := Ground.chain }], guard := none }) rfl (fun K hK => ?_) AllReadyH.nil)
                go_simp
                have tv := Value_any _ (mulP p0 p1 q0 q1) z.1 z.2 wz8 hia (by simp [mulP])
                rw [HE8.out, ← HY8.out] at tv
                refine tv.mono ?_
                clear tv
                rintro e wz4 ⟨rfl, hl⟩
                (try go_wp2_with fail)
                have hbz4 := bthen hbz8 hl
                have hia := hia.carry hl
                have bx := bx.carry hl
                clear hl
                refine hK.out _ _ ⟨cellb e0 hbz4, cellb e1 hbz4⟩ (fun hHeld4 => ?_)
                clear hK K hHeld3
                try simp only [Act.put, List.setIfInBounds_toArray, List.set_cons_zero, List.set_cons_succ]
                refine wpAnyH_take (i := 5) (oi := { dst := some 80, op := Op.move (Operand.tmp 85), type := 34, pos := "top03_wt47d.go:73", after := #[{ on := 4, ground := Ground.data }], guard := none }) (v := ?_) rfl (by kernel_rfl) (by kernel_rfl) (by kernel_rfl) (fun _ _ _ h => h) (Or.inl ⟨by rfl, ?_⟩) (by assumption) ?_
                rotate_left
                · (intro w hSw; (try dsimp only at hSw); go_simp); (try with_reducible rfl)
                try simp only [Act.put, List.setIfInBounds_toArray, List.set_cons_zero, List.set_cons_succ]
                refine wpAnyH_take (i := 6) (oi := { dst := some 86, op := Op.extract (Operand.tmp 80) 0, type := 33, pos := "top03_wt47d.go:73", after := #[{ on := 5, ground := Ground.data }], guard := none }) (v := ?_) rfl (by kernel_rfl) (by kernel_rfl) (by kernel_rfl) (fun _ _ _ h => h) (Or.inl ⟨by rfl, ?_⟩) (by assumption) ?_
                rotate_left
                · (intro w hSw; (try dsimp only at hSw); go_simp); (try with_reducible rfl)
                try simp only [Act.put, List.setIfInBounds_toArray, List.set_cons_zero, List.set_cons_succ]
                refine wpAnyH_take (i := 7) (oi := { dst := some 87, op := Op.extract (Operand.tmp 80) 1, type := 26, pos := "top03_wt47d.go:73", after := #[{ on := 5, ground := Ground.data }, { on := 9, ground := Ground.gcOnly Departure.lateStores }], guard := none }) (v := ?_) rfl (by kernel_rfl) (by kernel_rfl) (by kernel_rfl) (fun _ _ _ h => h) (Or.inl ⟨by rfl, ?_⟩) (by assumption) ?_
                rotate_left
                · (intro w hSw; (try dsimp only at hSw); go_simp); (try with_reducible rfl)
                try simp only [Act.put, List.setIfInBounds_toArray, List.set_cons_zero, List.set_cons_succ]
                refine wpAnyH_ready (rs := [9]) (by kernel_rfl) (by simp) ?_
                refine (AllReadyH.cons (o := { dst := none, op := Op.store 33 (Operand.tmp 13) (Operand.tmp 86), type := 0, pos := "top03_wt47d.go:73", after := #[{ on := 8, ground := Ground.data }, { on := 6, ground := Ground.data }, { on := 4, ground := Ground.chain }, { on := 0, ground := Ground.phase }, { on := 1, ground := Ground.phase }, { on := 2, ground := Ground.phase }, { on := 3, ground := Ground.phase }, { on := 4, ground := Ground.phase }, { on := 5, ground := Ground.phase }, { on := 6, ground := Ground.phase }, { on := 7, ground := Ground.textOnly Departure.lateStores }, { on := 8, ground := Ground.phase }], guard := none }) rfl (fun K hK => ?_) AllReadyH.nil)
                have bx' := bx
                obtain ⟨bc0, bc1, bf0, bf1⟩ := bx'
                go_simp
                obtain ⟨wz9, hwz⟩ : ∃ v, v = (wz4.setCell ⟨B, 0, none⟩ (.int .i64 y8.1)).setCell ⟨B, 1, none⟩ (.int .i64 y8.2) := ⟨_, rfl⟩
                rw [← hwz]
                have hbz9 : Below wx.heap.size wx wz9 := by rw [hwz]; exact (hbz4.setCell hB _).setCell hB _
                have bx := bx.set (.int .i64 y8.1) (.int .i64 y8.2)
                rw [← hwz] at bx
                clear hwz
                refine hK.out _ _ ⟨cellb e0 hbz9, cellb e1 hbz9⟩ (fun hHeld5 => ?_)
                clear hK K hHeld4
                try simp only [Act.put, List.setIfInBounds_toArray, List.set_cons_zero, List.set_cons_succ]
                refine wpAnyH_take (i := 10) (oi := { dst := some 14, op := Op.assign (Operand.tmp 87), type := 26, pos := "top03_wt47d.go:73", after := #[{ on := 7, ground := Ground.data }, { on := 9, ground := Ground.chain }, { on := 0, ground := Ground.phase }, { on := 1, ground := Ground.phase }, { on := 2, ground := Ground.phase }, { on := 3, ground := Ground.phase }, { on := 4, ground := Ground.phase }, { on := 5, ground := Ground.phase }, { on := 6, ground := Ground.phase }, { on := 7, ground := Ground.phase }, { on := 8, ground := Ground.phase }, { on := 9, ground := Ground.phase }], guard := none }) (v := ?_) rfl (by kernel_rfl) (by kernel_rfl) (by kernel_rfl) (fun _ _ _ h => h) (Or.inl ⟨by rfl, ?_⟩) (by assumption) ?_
                rotate_left
                · (intro w hSw; (try dsimp only at hSw); go_simp); (try with_reducible rfl)
                try simp only [Act.put, List.setIfInBounds_toArray, List.set_cons_zero, List.set_cons_succ]
                refine wpAnyH_done (by kernel_rfl) ?_ _
                clear hHeld5
                go_wp2_with fail
                go_meet
                exact ⟨B, rfl, bx, rfl, hbz9⟩
            · go_simp
              obtain ⟨wz8, hwz⟩ : ∃ v, v = wz0.alloc (Obj.cells #[.int .i64 0, .int .i64 0] 33) := ⟨_, rfl⟩
              rw [← hwz]
              have hl : Below wz0.heap.size wz0 wz8 := by rw [hwz]; exact below_new _ _
              have hbz8 := bthen hbz0 hl
              have bx : Box2 wz8 wz0.heap.size (.int .i64 0) (.int .i64 0) := by rw [hwz]; exact Box2.new _ _ _ _
              have hB : wx.heap.size ≤ wz0.heap.size := (hbz0).size
              generalize wz0.heap.size = B at bx hB ⊢
              clear hwz
              clear hl
              refine hK.out _ _ ⟨cellb e0 hbz8, cellb e1 hbz8⟩ (fun hHeld2 => ?_)
              clear hK K hHeld1
              try simp only [Act.put, List.setIfInBounds_toArray, List.set_cons_zero, List.set_cons_succ]
              refine wpAnyH_ready (rs := [2]) (by kernel_rfl) (by simp) ?_
              refine (AllReadyH.cons (o := { dst := some 83, op := Op.call { callee := Callee.builtin Builtin.append, args := #[Operand.tmp 81, Operand.tmp 82], argTypes := #[25, 25] }, type := 25, pos := "top03_wt47d.go:73", after := #[{ on := 0, ground := Ground.data }, { on := 1, ground := Ground.data }], guard := none }) rfl (fun K hK => ?_) AllReadyH.nil)
              rw [if_pos (by rfl)]
              refine wp_append_fresh (.tmp 81) (.tmp 82) 25 25 3 3 rfl i0 (.int .i64 0) Try.underlying25 Try.underlying25 hi hz0 hz1 hz2 _ 0 rfl _ (mulP p0 p1 q0 q1) rfl (himx.carry hbz8) (by simp [mulP]) ?_
              intro ba oa ca wz2 hia hl
              have hbz2 := bthen hbz8 hl
              have bx := bx.carry hl
              clear hl
              refine hK.out _ _ ⟨cellb e0 hbz2, cellb e1 hbz2⟩ (fun hHeld3 => ?_)
              clear hK K hHeld2
              try simp only [Act.put, List.setIfInBounds_toArray, List.set_cons_zero, List.set_cons_succ]
              refine wpAnyH_ready (rs := [4]) (by kernel_rfl) (by simp) ?_
              refine (AllReadyH.cons (o := { dst := some 85, op := Op.call { callee := Callee.value (Operand.func 8), args := #[Operand.tmp 83, Operand.tmp 84], argTypes := #[25, 33] }, type := 34, pos := "top03_wt47d.go:73", after := #[{ on := 2, ground := Ground.data }, { on := 3, ground := Ground.data }, { on := 2, ground := Ground.chain }], guard := none }) rfl (fun K hK => ?_) AllReadyH.nil)
              go_simp
              have tv := Value_any _ (mulP p0 p1 q0 q1) z.1 z.2 wz2 hia (by simp [mulP])
              rw [HE8.out, ← HY8.out] at tv
              refine tv.mono ?_
              clear tv
              rintro e wz4 ⟨rfl, hl⟩
              (try go_wp2_with fail)
              have hbz4 := bthen hbz2 hl
              have bx := bx.carry hl
              have hia := hia.carry hl
              clear hl
              refine hK.out _ _ ⟨cellb e0 hbz4, cellb e1 hbz4⟩ (fun hHeld4 => ?_)
              clear hK K hHeld3
              try simp only [Act.put, List.setIfInBounds_toArray, List.set_cons_zero, List.set_cons_succ]
              refine wpAnyH_take (i := 5) (oi := { dst := some 80, op := Op.move (Operand.tmp 85), type := 34, pos := "top03_wt47d.go:73", after := #[{ on := 4, ground := Ground.data }], guard := none }) (v := ?_) rfl (by kernel_rfl) (by kernel_rfl) (by kernel_rfl) (fun _ _ _ h => h) (Or.inl ⟨by rfl, ?_⟩) (by assumption) ?_
              rotate_left
              · (intro w hSw; (try dsimp only at hSw); go_simp); (try with_reducible rfl)
              try simp only [Act.put, List.setIfInBounds_toArray, List.set_cons_zero, List.set_cons_succ]
              refine wpAnyH_take (i := 6) (oi := { dst := some 86, op := Op.extract (Operand.tmp 80) 0, type := 33, pos := "top03_wt47d.go:73", after := #[{ on := 5, ground := Ground.data }], guard := none }) (v := ?_) rfl (by kernel_rfl) (by kernel_rfl) (by kernel_rfl) (fun _ _ _ h => h) (Or.inl ⟨by rfl, ?_⟩) (by assumption) ?_
              rotate_left
              · (intro w hSw; (try dsimp only at hSw); go_simp); (try with_reducible rfl)
              try simp only [Act.put, List.setIfInBounds_toArray, List.set_cons_zero, List.set_cons_succ]
              refine wpAnyH_take (i := 7) (oi := { dst := some 87, op := Op.extract (Operand.tmp 80) 1, type := 26, pos := "top03_wt47d.go:73", after := #[{ on := 5, ground := Ground.data }, { on := 9, ground := Ground.gcOnly Departure.lateStores }], guard := none }) (v := ?_) rfl (by kernel_rfl) (by kernel_rfl) (by kernel_rfl) (fun _ _ _ h => h) (Or.inl ⟨by rfl, ?_⟩) (by assumption) ?_
              rotate_left
              · (intro w hSw; (try dsimp only at hSw); go_simp); (try with_reducible rfl)
              try simp only [Act.put, List.setIfInBounds_toArray, List.set_cons_zero, List.set_cons_succ]
              refine wpAnyH_ready (rs := [9]) (by kernel_rfl) (by simp) ?_
              refine (AllReadyH.cons (o := { dst := none, op := Op.store 33 (Operand.tmp 13) (Operand.tmp 86), type := 0, pos := "top03_wt47d.go:73", after := #[{ on := 8, ground := Ground.data }, { on := 6, ground := Ground.data }, { on := 4, ground := Ground.chain }, { on := 0, ground := Ground.phase }, { on := 1, ground := Ground.phase }, { on := 2, ground := Ground.phase }, { on := 3, ground := Ground.phase }, { on := 4, ground := Ground.phase }, { on := 5, ground := Ground.phase }, { on := 6, ground := Ground.phase }, { on := 7, ground := Ground.textOnly Departure.lateStores }, { on := 8, ground := Ground.phase }], guard := none }) rfl (fun K hK => ?_) AllReadyH.nil)
              have bx' := bx
              obtain ⟨bc0, bc1, bf0, bf1⟩ := bx'
              go_simp
              obtain ⟨wz9, hwz⟩ : ∃ v, v = (wz4.setCell ⟨B, 0, none⟩ (.int .i64 y8.1)).setCell ⟨B, 1, none⟩ (.int .i64 y8.2) := ⟨_, rfl⟩
              rw [← hwz]
              have hbz9 : Below wx.heap.size wx wz9 := by rw [hwz]; exact (hbz4.setCell hB _).setCell hB _
              have bx := bx.set (.int .i64 y8.1) (.int .i64 y8.2)
              rw [← hwz] at bx
              clear hwz
              refine hK.out _ _ ⟨cellb e0 hbz9, cellb e1 hbz9⟩ (fun hHeld5 => ?_)
              clear hK K hHeld4
              try simp only [Act.put, List.setIfInBounds_toArray, List.set_cons_zero, List.set_cons_succ]
              refine wpAnyH_take (i := 10) (oi := { dst := some 14, op := Op.assign (Operand.tmp 87), type := 26, pos := "top03_wt47d.go:73", after := #[{ on := 7, ground := Ground.data }, { on := 9, ground := Ground.chain }, { on := 0, ground := Ground.phase }, { on := 1, ground := Ground.phase }, { on := 2, ground := Ground.phase }, { on := 3, ground := Ground.phase }, { on := 4, ground := Ground.phase }, { on := 5, ground := Ground.phase }, { on := 6, ground := Ground.phase }, { on := 7, ground := Ground.phase }, { on := 8, ground := Ground.phase }, { on := 9, ground := Ground.phase }], guard := none }) (v := ?_) rfl (by kernel_rfl) (by kernel_rfl) (by kernel_rfl) (fun _ _ _ h => h) (Or.inl ⟨by rfl, ?_⟩) (by assumption) ?_
              rotate_left
              · (intro w hSw; (try dsimp only at hSw); go_simp); (try with_reducible rfl)
              try simp only [Act.put, List.setIfInBounds_toArray, List.set_cons_zero, List.set_cons_succ]
              refine wpAnyH_done (by kernel_rfl) ?_ _
              clear hHeld5
              go_wp2_with fail
              go_meet
              exact ⟨B, rfl, bx, rfl, hbz9⟩
          · go_simp
            obtain ⟨wz8, hwz⟩ : ∃ v, v = wzd.alloc (Obj.cells #[.int .i64 0, .int .i64 0] 33) := ⟨_, rfl⟩
            rw [← hwz]
            have hl : Below wzd.heap.size wzd wz8 := by rw [hwz]; exact below_new _ _
            have hbz8 := bthen hbzd hl
            have bx : Box2 wz8 wzd.heap.size (.int .i64 0) (.int .i64 0) := by rw [hwz]; exact Box2.new _ _ _ _
            have hB : wx.heap.size ≤ wzd.heap.size := (hbzd).size
            generalize wzd.heap.size = B at bx hB ⊢
            clear hwz
            clear hl
            refine hK.out _ _ ⟨cellb e0 hbz8, cellb e1 hbz8⟩ (fun hHeld1 => ?_)
            clear hK K hHeld0
            try simp only [Act.put, List.setIfInBounds_toArray, List.set_cons_zero, List.set_cons_succ]
            refine wpAnyH_ready (rs := [0]) (by kernel_rfl) (by simp) ?_
            refine (AllReadyH.cons (o := { dst := some 81, op := Op.buildSlice 25 0 #[], type := 25, pos := "top03_wt47d.go:73", after := #[], guard := none }) rfl (fun K hK => ?_) AllReadyH.nil)
            go_simp
            obtain ⟨wz0, hwz⟩ : ∃ v, v = wz8.alloc (Obj.cells #[] 3) := ⟨_, rfl⟩
            rw [← hwz]
            have hl : Below wz8.heap.size wz8 wz0 := by rw [hwz]; exact below_new _ _
            have hbz0 := bthen hbz8 hl
            clear hwz
            have bx := bx.carry hl
            clear hl
            refine hK.out _ _ ⟨cellb e0 hbz0, cellb e1 hbz0⟩ (fun hHeld2 => ?_)
            clear hK K hHeld1
            try simp only [Act.put, List.setIfInBounds_toArray, List.set_cons_zero, List.set_cons_succ]
            refine wpAnyH_ready (rs := [2]) (by kernel_rfl) (by simp) ?_
            refine (AllReadyH.cons (o := { dst := some 83, op := Op.call { callee := Callee.builtin Builtin.append, args := #[Operand.tmp 81, Operand.tmp 82], argTypes := #[25, 25] }, type := 25, pos := "top03_wt47d.go:73", after := #[{ on := 0, ground := Ground.data }, { on := 1, ground := Ground.data }], guard := none }) rfl (fun K hK => ?_) AllReadyH.nil)
            rw [if_pos (by rfl)]
            refine wp_append_fresh (.tmp 81) (.tmp 82) 25 25 3 3 rfl i0 (.int .i64 0) Try.underlying25 Try.underlying25 hi hz0 hz1 hz2 _ 0 rfl _ (mulP p0 p1 q0 q1) rfl (himx.carry hbz0) (by simp [mulP]) ?_
            intro ba oa ca wz2 hia hl
            have hbz2 := bthen hbz0 hl
            have bx := bx.carry hl
            clear hl
            refine hK.out _ _ ⟨cellb e0 hbz2, cellb e1 hbz2⟩ (fun hHeld3 => ?_)
            clear hK K hHeld2
            try simp only [Act.put, List.setIfInBounds_toArray, List.set_cons_zero, List.set_cons_succ]
            refine wpAnyH_ready (rs := [4]) (by kernel_rfl) (by simp) ?_
            refine (AllReadyH.cons (o := { dst := some 85, op := Op.call { callee := Callee.value (Operand.func 8), args := #[Operand.tmp 83, Operand.tmp 84], argTypes := #[25, 33] }, type := 34, pos := "top03_wt47d.go:73", after := #[{ on := 2, ground := Ground.data }, { on := 3, ground := Ground.data }, { on := 2, ground := Ground.chain }], guard := none }) rfl (fun K hK => ?_) AllReadyH.nil)
            go_simp
            have tv := Value_any _ (mulP p0 p1 q0 q1) z.1 z.2 wz2 hia (by simp [mulP])
            rw [HE8.out, ← HY8.out] at tv
            refine tv.mono ?_
            clear tv
            rintro e wz4 ⟨rfl, hl⟩
            (try go_wp2_with fail)
            have hbz4 := bthen hbz2 hl
            have bx := bx.carry hl
            have hia := hia.carry hl
            clear hl
            refine hK.out _ _ ⟨cellb e0 hbz4, cellb e1 hbz4⟩ (fun hHeld4 => ?_)
            clear hK K hHeld3
            try simp only [Act.put, List.setIfInBounds_toArray, List.set_cons_zero, List.set_cons_succ]
            refine wpAnyH_take (i := 5) (oi := { dst := some 80, op := Op.move (Operand.tmp 85), type := 34, pos := "top03_wt47d.go:73", after := #[{ on := 4, ground := Ground.data }], guard := none }) (v := ?_) rfl (by kernel_rfl) (by kernel_rfl) (by kernel_rfl) (fun _ _ _ h => h) (Or.inl ⟨by rfl, ?_⟩) (by assumption) ?_
            rotate_left
            · (intro w hSw; (try dsimp only at hSw); go_simp); (try with_reducible rfl)
            try simp only [Act.put, List.setIfInBounds_toArray, List.set_cons_zero, List.set_cons_succ]
            refine wpAnyH_take (i := 6) (oi := { dst := some 86, op := Op.extract (Operand.tmp 80) 0, type := 33, pos := "top03_wt47d.go:73", after := #[{ on := 5, ground := Ground.data }], guard := none }) (v := ?_) rfl (by kernel_rfl) (by kernel_rfl) (by kernel_rfl) (fun _ _ _ h => h) (Or.inl ⟨by rfl, ?_⟩) (by assumption) ?_
            rotate_left
            · (intro w hSw; (try dsimp only at hSw); go_simp); (try with_reducible rfl)
            try simp only [Act.put, List.setIfInBounds_toArray, List.set_cons_zero, List.set_cons_succ]
            refine wpAnyH_take (i := 7) (oi := { dst := some 87, op := Op.extract (Operand.tmp 80) 1, type := 26, pos := "top03_wt47d.go:73", after := #[{ on := 5, ground := Ground.data }, { on := 9, ground := Ground.gcOnly Departure.lateStores }], guard := none }) (v := ?_) rfl (by kernel_rfl) (by kernel_rfl) (by kernel_rfl) (fun _ _ _ h => h) (Or.inl ⟨by rfl, ?_⟩) (by assumption) ?_
            rotate_left
            · (intro w hSw; (try dsimp only at hSw); go_simp); (try with_reducible rfl)
            try simp only [Act.put, List.setIfInBounds_toArray, List.set_cons_zero, List.set_cons_succ]
            refine wpAnyH_ready (rs := [9]) (by kernel_rfl) (by simp) ?_
            refine (AllReadyH.cons (o := { dst := none, op := Op.store 33 (Operand.tmp 13) (Operand.tmp 86), type := 0, pos := "top03_wt47d.go:73", after := #[{ on := 8, ground := Ground.data }, { on := 6, ground := Ground.data }, { on := 4, ground := Ground.chain }, { on := 0, ground := Ground.phase }, { on := 1, ground := Ground.phase }, { on := 2, ground := Ground.phase }, { on := 3, ground := Ground.phase }, { on := 4, ground := Ground.phase }, { on := 5, ground := Ground.phase }, { on := 6, ground := Ground.phase }, { on := 7, ground := Ground.textOnly Departure.lateStores }, { on := 8, ground := Ground.phase }], guard := none }) rfl (fun K hK => ?_) AllReadyH.nil)
            have bx' := bx
            obtain ⟨bc0, bc1, bf0, bf1⟩ := bx'
            go_simp
            obtain ⟨wz9, hwz⟩ : ∃ v, v = (wz4.setCell ⟨B, 0, none⟩ (.int .i64 y8.1)).setCell ⟨B, 1, none⟩ (.int .i64 y8.2) := ⟨_, rfl⟩
            rw [← hwz]
            have hbz9 : Below wx.heap.size wx wz9 := by rw [hwz]; exact (hbz4.setCell hB _).setCell hB _
            have bx := bx.set (.int .i64 y8.1) (.int .i64 y8.2)
            rw [← hwz] at bx
            clear hwz
            refine hK.out _ _ ⟨cellb e0 hbz9, cellb e1 hbz9⟩ (fun hHeld5 => ?_)
            clear hK K hHeld4
            try simp only [Act.put, List.setIfInBounds_toArray, List.set_cons_zero, List.set_cons_succ]
            refine wpAnyH_take (i := 10) (oi := { dst := some 14, op := Op.assign (Operand.tmp 87), type := 26, pos := "top03_wt47d.go:73", after := #[{ on := 7, ground := Ground.data }, { on := 9, ground := Ground.chain }, { on := 0, ground := Ground.phase }, { on := 1, ground := Ground.phase }, { on := 2, ground := Ground.phase }, { on := 3, ground := Ground.phase }, { on := 4, ground := Ground.phase }, { on := 5, ground := Ground.phase }, { on := 6, ground := Ground.phase }, { on := 7, ground := Ground.phase }, { on := 8, ground := Ground.phase }, { on := 9, ground := Ground.phase }], guard := none }) (v := ?_) rfl (by kernel_rfl) (by kernel_rfl) (by kernel_rfl) (fun _ _ _ h => h) (Or.inl ⟨by rfl, ?_⟩) (by assumption) ?_
            rotate_left
            · (intro w hSw; (try dsimp only at hSw); go_simp); (try with_reducible rfl)
            try simp only [Act.put, List.setIfInBounds_toArray, List.set_cons_zero, List.set_cons_succ]
            refine wpAnyH_done (by kernel_rfl) ?_ _
            clear hHeld5
            go_wp2_with fail
            go_meet
            exact ⟨B, rfl, bx, rfl, hbz9⟩
        case rest =>
          obtain ⟨B8, rfl, x8, rfl, hl8⟩ := hcut
          obtain ⟨w8, rfl⟩ : ∃ w8, w8 = wc := ⟨_, rfl⟩
          have hbx := bthen hbx hl8
          have himx := himx.carry hl8
          have hipx := hipx.carry hl8
          have hiqx := hiqx.carry hl8
          have zb := zb.carry hl8
          have zb' := zb
          obtain ⟨e0, e1, _, _⟩ := zb'
          have hE9 : valueE [p0, p1] z.1 z.2 = 0 := HV.out.1.1.2
          have HE9 := Lib.hid hE9
          clear hE9
          obtain ⟨y9, hy9⟩ : ∃ y, y = valueR [p0, p1] z.1 z.2 := ⟨_, rfl⟩
          have HY9 := Lib.hid hy9
          clear hy9
          go_upto_region 9 with fail
          go_cut [15, 16] (fun va vb wn => ∃ B, va = .pointer (some ⟨B, 0, none⟩) ∧ Box2 wn B (.int .i64 y9.1) (.int .i64 y9.2) ∧ vb = .int .i64 0 ∧ Below w8.heap.size w8 wn)
          case first =>
            refine wp_region_held_drew (S := (fun w' => w'.cell? ⟨wr.heap.size, 0, none⟩ = some (.int .i64 z.1) ∧ w'.cell? ⟨wr.heap.size, 1, none⟩ = some (.int .i64 z.2))) (by kernel_rfl) ⟨cellb e0 (Below.refl _ _).drew, cellb e1 (Below.refl _ _).drew⟩ (fun hHeld0 => ?_)
            obtain ⟨wzd, hwz⟩ : ∃ v, v = w8.drew := ⟨_, rfl⟩
            rw [← hwz] at hHeld0 ⊢
            have hbzd : Below w8.heap.size w8 wzd := by rw [hwz]; exact (Below.refl _ _).drew
            clear hwz
            refine wpAnyH_take (i := 1) (oi := { dst := some 90, op := Op.move (Operand.tmp 7), type := 24, pos := "top03_wt47d.go:74", after := #[], guard := none }) (v := ?_) rfl (by kernel_rfl) (by kernel_rfl) (by kernel_rfl) (fun _ _ _ h => h) (Or.inl ⟨by rfl, ?_⟩) (by assumption) ?_
            rotate_left
            · (intro w hSw; (try dsimp only at hSw); go_simp); (try with_reducible rfl)
            try simp only [Act.put, List.setIfInBounds_toArray, List.set_cons_zero, List.set_cons_succ]
            refine wpAnyH_take (i := 3) (oi := { dst := some 92, op := Op.load 33 (Operand.tmp 12), type := 33, pos := "top03_wt47d.go:74", after := #[], guard := none }) (v := ?_) rfl (by kernel_rfl) (by kernel_rfl) (by kernel_rfl) (fun _ _ _ h => h) (Or.inl ⟨by rfl, ?_⟩) (by assumption) ?_
            rotate_left
            · (intro w hSw; (try dsimp only at hSw); go_simp); (try with_reducible rfl)
            try simp only [Act.put, List.setIfInBounds_toArray, List.set_cons_zero, List.set_cons_succ]
            refine wpAnyH_ready (rs := [0, 8]) (by kernel_rfl) (by simp) ?_
            refine (AllReadyH.cons (o := { dst := some 89, op := Op.buildSlice 25 0 #[], type := 25, pos := "top03_wt47d.go:74", after := #[], guard := none }) rfl (fun K hK => ?_) (AllReadyH.cons (o := { dst := some 15, op := Op.alloc 33, type := 0, pos := "top03_wt47d.go:74", after := #[], guard := none }) rfl (fun K hK => ?_) AllReadyH.nil))
            · go_simp
              obtain ⟨wz0, hwz⟩ : ∃ v, v = wzd.alloc (Obj.cells #[] 3) := ⟨_, rfl⟩
              rw [← hwz]
              have hl : Below wzd.heap.size wzd wz0 := by rw [hwz]; exact below_new _ _
              have hbz0 := bthen hbzd hl
              clear hwz
              clear hl
              refine hK.out _ _ ⟨cellb e0 hbz0, cellb e1 hbz0⟩ (fun hHeld1 => ?_)
              clear hK K hHeld0
              try simp only [Act.put, List.setIfInBounds_toArray, List.set_cons_zero, List.set_cons_succ]
              refine wpAnyH_ready (rs := [2, 8]) (by kernel_rfl) (by simp) ?_
              refine (AllReadyH.cons (o := { dst := some 91, op := Op.call { callee := Callee.builtin Builtin.append, args := #[Operand.tmp 89, Operand.tmp 90], argTypes := #[25, 24] }, type := 25, pos := "top03_wt47d.go:74", after := #[{ on := 0, ground := Ground.data }, { on := 1, ground := Ground.data }], guard := none }) rfl (fun K hK => ?_) (AllReadyH.cons (o := { dst := some 15, op := Op.alloc 33, type := 0, pos := "top03_wt47d.go:74", after := #[], guard := none }) rfl (fun K hK => ?_) AllReadyH.nil))
              · rw [if_pos (by rfl)]
                refine wp_append_fresh (.tmp 89) (.tmp 90) 25 24 3 3 rfl i0 (.int .i64 0) Try.underlying25 Try.underlying24 hi hz0 hz1 hz2 _ 0 rfl _ [p0, p1] rfl (hipx.carry hbz0) (by simp [mulP]) ?_
                intro ba oa ca wz2 hia hl
                have hbz2 := bthen hbz0 hl
                clear hl
                refine hK.out _ _ ⟨cellb e0 hbz2, cellb e1 hbz2⟩ (fun hHeld2 => ?_)
                clear hK K hHeld1
                try simp only [Act.put, List.setIfInBounds_toArray, List.set_cons_zero, List.set_cons_succ]
                refine wpAnyH_ready (rs := [4, 8]) (by kernel_rfl) (by simp) ?_
                refine (AllReadyH.cons (o := { dst := some 93, op := Op.call { callee := Callee.value (Operand.func 8), args := #[Operand.tmp 91, Operand.tmp 92], argTypes := #[25, 33] }, type := 34, pos := "top03_wt47d.go:74", after := #[{ on := 2, ground := Ground.data }, { on := 3, ground := Ground.data }, { on := 2, ground := Ground.chain }], guard := none }) rfl (fun K hK => ?_) (AllReadyH.cons (o := { dst := some 15, op := Op.alloc 33, type := 0, pos := "top03_wt47d.go:74", after := #[], guard := none }) rfl (fun K hK => ?_) AllReadyH.nil))
                · go_simp
                  have tv := Value_any _ [p0, p1] z.1 z.2 wz2 hia (by simp [mulP])
                  rw [HE9.out, ← HY9.out] at tv
                  refine tv.mono ?_
                  clear tv
                  rintro e wz4 ⟨rfl, hl⟩
                  (try go_wp2_with fail)
                  have hbz4 := bthen hbz2 hl
                  have hia := hia.carry hl
                  clear hl
                  refine hK.out _ _ ⟨cellb e0 hbz4, cellb e1 hbz4⟩ (fun hHeld3 => ?_)
                  clear hK K hHeld2
                  try simp only [Act.put, List.setIfInBounds_toArray, List.set_cons_zero, List.set_cons_succ]
                  refine wpAnyH_take (i := 5) (oi := { dst := some 88, op := Op.move (Operand.tmp 93), type := 34, pos := "top03_wt47d.go:74", after := #[{ on := 4, ground := Ground.data }], guard := none }) (v := ?_) rfl (by kernel_rfl) (by kernel_rfl) (by kernel_rfl) (fun _ _ _ h => h) (Or.inl ⟨by rfl, ?_⟩) (by assumption) ?_
                  rotate_left
                  · (intro w hSw; (try dsimp only at hSw); go_simp); (try with_reducible rfl)
                  try simp only [Act.put, List.setIfInBounds_toArray, List.set_cons_zero, List.set_cons_succ]
                  refine wpAnyH_take (i := 6) (oi := { dst := some 94, op := Op.extract (Operand.tmp 88) 0, type := 33, pos := "top03_wt47d.go:74", after := #[{ on := 5, ground := Ground.data }], guard := none }) (v := ?_) rfl (by kernel_rfl) (by kernel_rfl) (by kernel_rfl) (fun _ _ _ h => h) (Or.inl ⟨by rfl, ?_⟩) (by assumption) ?_
                  rotate_left
                  · (intro w hSw; (try dsimp only at hSw); go_simp); (try with_reducible rfl)
                  try simp only [Act.put, List.setIfInBounds_toArray, List.set_cons_zero, List.set_cons_succ]
                  refine wpAnyH_take (i := 7) (oi := { dst := some 95, op := Op.extract (Operand.tmp 88) 1, type := 26, pos := "top03_wt47d.go:74", after := #[{ on := 5, ground := Ground.data }, { on := 9, ground := Ground.gcOnly Departure.lateStores }], guard := none }) (v := ?_) rfl (by kernel_rfl) (by kernel_rfl) (by kernel_rfl) (fun _ _ _ h => h) (Or.inl ⟨by rfl, ?_⟩) (by assumption) ?_
                  rotate_left
                  · (intro w hSw; (try dsimp only at hSw); go_simp); (try with_reducible rfl)
                  try simp only [Act.put, List.setIfInBounds_toArray, List.set_cons_zero, List.set_cons_succ]
                  refine wpAnyH_ready (rs := [8]) (by kernel_rfl) (by simp) ?_
                  refine (AllReadyH.cons (o := { dst := some 15, op := Op.alloc 33, type := 0, pos := "top03_wt47d.go:74", after := #[], guard := none }) rfl (fun K hK => ?_) AllReadyH.nil)
                  go_simp
                  obtain ⟨wz8, hwz⟩ : ∃ v, v = wz4.alloc (Obj.cells #[.int .i64 0, .int .i64 0] 33) := ⟨_, rfl⟩
                  rw [← hwz]
                  have hl : Below wz4.heap.size wz4 wz8 := by rw [hwz]; exact below_new _ _
                  have hbz8 := bthen hbz4 hl
                  have bx : Box2 wz8 wz4.heap.size (.int .i64 0) (.int .i64 0) := by rw [hwz]; exact Box2.new _ _ _ _
                  have hB : w8.heap.size ≤ wz4.heap.size := (hbz4).size
                  generalize wz4.heap.size = B at bx hB ⊢
                  clear hwz
                  have hia := hia.carry hl
                  clear hl
                  refine hK.out _ _ ⟨cellb e0 hbz8, cellb e1 hbz8⟩ (fun hHeld4 => ?_)
                  clear hK K hHeld3
                  try simp only [Act.put, List.setIfInBounds_toArray, List.set_cons_zero, List.set_cons_succ]
                  refine wpAnyH_ready (rs := [9]) (by kernel_rfl) (by simp) ?_
                  refine (AllReadyH.cons (o := { dst := none, op := Op.store 33 (Operand.tmp 15) (Operand.tmp 94), type := 0, pos := "top03_wt47d.go:74", after := #[{ on := 8, ground := Ground.data }, { on := 6, ground := Ground.data }, { on := 4, ground := Ground.chain }, { on := 0, ground := Ground.phase }, { on := 1, ground := Ground.phase }, { on := 2, ground := Ground.phase }, { on := 3, ground := Ground.phase }, { on := 4, ground := Ground.phase }, { on := 5, ground := Ground.phase }, { on := 6, ground := Ground.phase }, { on := 7, ground := Ground.textOnly Departure.lateStores }, { on := 8, ground := Ground.phase }], guard := none }) rfl (fun K hK => ?_) AllReadyH.nil)
                  have bx' := bx
                  obtain ⟨bc0, bc1, bf0, bf1⟩ := bx'
                  go_simp
                  obtain ⟨wz9, hwz⟩ : ∃ v, v = (wz8.setCell ⟨B, 0, none⟩ (.int .i64 y9.1)).setCell ⟨B, 1, none⟩ (.int .i64 y9.2) := ⟨_, rfl⟩
                  rw [← hwz]
                  have hbz9 : Below w8.heap.size w8 wz9 := by rw [hwz]; exact (hbz8.setCell hB _).setCell hB _
                  have bx := bx.set (.int .i64 y9.1) (.int .i64 y9.2)
                  rw [← hwz] at bx
                  clear hwz
                  refine hK.out _ _ ⟨cellb e0 hbz9, cellb e1 hbz9⟩ (fun hHeld5 => ?_)
                  clear hK K hHeld4
                  try simp only [Act.put, List.setIfInBounds_toArray, List.set_cons_zero, List.set_cons_succ]
                  refine wpAnyH_take (i := 10) (oi := { dst := some 16, op := Op.assign (Operand.tmp 95), type := 26, pos := "top03_wt47d.go:74", after := #[{ on := 7, ground := Ground.data }, { on := 9, ground := Ground.chain }, { on := 0, ground := Ground.phase }, { on := 1, ground := Ground.phase }, { on := 2, ground := Ground.phase }, { on := 3, ground := Ground.phase }, { on := 4, ground := Ground.phase }, { on := 5, ground := Ground.phase }, { on := 6, ground := Ground.phase }, { on := 7, ground := Ground.phase }, { on := 8, ground := Ground.phase }, { on := 9, ground := Ground.phase }], guard := none }) (v := ?_) rfl (by kernel_rfl) (by kernel_rfl) (by kernel_rfl) (fun _ _ _ h => h) (Or.inl ⟨by rfl, ?_⟩) (by assumption) ?_
                  rotate_left
                  · (intro w hSw; (try dsimp only at hSw); go_simp); (try with_reducible rfl)
                  try simp only [Act.put, List.setIfInBounds_toArray, List.set_cons_zero, List.set_cons_succ]
                  refine wpAnyH_done (by kernel_rfl) ?_ _
                  clear hHeld5
                  go_wp2_with fail
                  go_meet
                  exact ⟨B, rfl, bx, rfl, hbz9⟩
                · go_simp
                  obtain ⟨wz8, hwz⟩ : ∃ v, v = wz2.alloc (Obj.cells #[.int .i64 0, .int .i64 0] 33) := ⟨_, rfl⟩
                  rw [← hwz]
                  have hl : Below wz2.heap.size wz2 wz8 := by rw [hwz]; exact below_new _ _
                  have hbz8 := bthen hbz2 hl
                  have bx : Box2 wz8 wz2.heap.size (.int .i64 0) (.int .i64 0) := by rw [hwz]; exact Box2.new _ _ _ _
                  have hB : w8.heap.size ≤ wz2.heap.size := (hbz2).size
                  generalize wz2.heap.size = B at bx hB ⊢
                  clear hwz
                  have hia := hia.carry hl
                  clear hl
                  refine hK.out _ _ ⟨cellb e0 hbz8, cellb e1 hbz8⟩ (fun hHeld3 => ?_)
                  clear hK K hHeld2
                  try simp only [Act.put, List.setIfInBounds_toArray, List.set_cons_zero, List.set_cons_succ]
                  refine wpAnyH_ready (rs := [4]) (by kernel_rfl) (by simp) ?_
                  refine (AllReadyH.cons (o := { dst := some 93, op := Op.call { callee := Callee.value (Operand.func 8), args := #[Operand.tmp 91, Operand.tmp 92], argTypes := #[25, 33] }, type := 34, pos := "top03_wt47d.go:74", after := #[{ on := 2, ground := Ground.data }, { on := 3, ground := Ground.data }, { on := 2, ground := Ground.chain }], guard := none }) rfl (fun K hK => ?_) AllReadyH.nil)
                  go_simp
                  have tv := Value_any _ [p0, p1] z.1 z.2 wz8 hia (by simp [mulP])
                  rw [HE9.out, ← HY9.out] at tv
                  refine tv.mono ?_
                  clear tv
                  rintro e wz4 ⟨rfl, hl⟩
                  (try go_wp2_with fail)
                  have hbz4 := bthen hbz8 hl
                  have hia := hia.carry hl
                  have bx := bx.carry hl
                  clear hl
                  refine hK.out _ _ ⟨cellb e0 hbz4, cellb e1 hbz4⟩ (fun hHeld4 => ?_)
                  clear hK K hHeld3
                  try simp only [Act.put, List.setIfInBounds_toArray, List.set_cons_zero, List.set_cons_succ]
                  refine wpAnyH_take (i := 5) (oi := { dst := some 88, op := Op.move (Operand.tmp 93), type := 34, pos := "top03_wt47d.go:74", after := #[{ on := 4, ground := Ground.data }], guard := none }) (v := ?_) rfl (by kernel_rfl) (by kernel_rfl) (by kernel_rfl) (fun _ _ _ h => h) (Or.inl ⟨by rfl, ?_⟩) (by assumption) ?_
                  rotate_left
                  · (intro w hSw; (try dsimp only at hSw); go_simp); (try with_reducible rfl)
                  try simp only [Act.put, List.setIfInBounds_toArray, List.set_cons_zero, List.set_cons_succ]
                  refine wpAnyH_take (i := 6) (oi := { dst := some 94, op := Op.extract (Operand.tmp 88) 0, type := 33, pos := "top03_wt47d.go:74", after := #[{ on := 5, ground := Ground.data }], guard := none }) (v := ?_) rfl (by kernel_rfl) (by kernel_rfl) (by kernel_rfl) (fun _ _ _ h => h) (Or.inl ⟨by rfl, ?_⟩) (by assumption) ?_
                  rotate_left
                  · (intro w hSw; (try dsimp only at hSw); go_simp); (try with_reducible rfl)
                  try simp only [Act.put, List.setIfInBounds_toArray, List.set_cons_zero, List.set_cons_succ]
                  refine wpAnyH_take (i := 7) (oi := { dst := some 95, op := Op.extract (Operand.tmp 88) 1, type := 26, pos := "top03_wt47d.go:74", after := #[{ on := 5, ground := Ground.data }, { on := 9, ground := Ground.gcOnly Departure.lateStores }], guard := none }) (v := ?_) rfl (by kernel_rfl) (by kernel_rfl) (by kernel_rfl) (fun _ _ _ h => h) (Or.inl ⟨by rfl, ?_⟩) (by assumption) ?_
                  rotate_left
                  · (intro w hSw; (try dsimp only at hSw); go_simp); (try with_reducible rfl)
                  try simp only [Act.put, List.setIfInBounds_toArray, List.set_cons_zero, List.set_cons_succ]
                  refine wpAnyH_ready (rs := [9]) (by kernel_rfl) (by simp) ?_
                  refine (AllReadyH.cons (o := { dst := none, op := Op.store 33 (Operand.tmp 15) (Operand.tmp 94), type := 0, pos := "top03_wt47d.go:74", after := #[{ on := 8, ground := Ground.data }, { on := 6, ground := Ground.data }, { on := 4, ground := Ground.chain }, { on := 0, ground := Ground.phase }, { on := 1, ground := Ground.phase }, { on := 2, ground := Ground.phase }, { on := 3, ground := Ground.phase }, { on := 4, ground := Ground.phase }, { on := 5, ground := Ground.phase }, { on := 6, ground := Ground.phase }, { on := 7, ground := Ground.textOnly Departure.lateStores }, { on := 8, ground := Ground.phase }], guard := none }) rfl (fun K hK => ?_) AllReadyH.nil)
                  have bx' := bx
                  obtain ⟨bc0, bc1, bf0, bf1⟩ := bx'
                  go_simp
                  obtain ⟨wz9, hwz⟩ : ∃ v, v = (wz4.setCell ⟨B, 0, none⟩ (.int .i64 y9.1)).setCell ⟨B, 1, none⟩ (.int .i64 y9.2) := ⟨_, rfl⟩
                  rw [← hwz]
                  have hbz9 : Below w8.heap.size w8 wz9 := by rw [hwz]; exact (hbz4.setCell hB _).setCell hB _
                  have bx := bx.set (.int .i64 y9.1) (.int .i64 y9.2)
                  rw [← hwz] at bx
                  clear hwz
                  refine hK.out _ _ ⟨cellb e0 hbz9, cellb e1 hbz9⟩ (fun hHeld5 => ?_)
                  clear hK K hHeld4
                  try simp only [Act.put, List.setIfInBounds_toArray, List.set_cons_zero, List.set_cons_succ]
                  refine wpAnyH_take (i := 10) (oi := { dst := some 16, op := Op.assign (Operand.tmp 95), type := 26, pos := "top03_wt47d.go:74", after := #[{ on := 7, ground := Ground.data }, { on := 9, ground := Ground.chain }, { on := 0, ground := Ground.phase }, { on := 1, ground := Ground.phase }, { on := 2, ground := Ground.phase }, { on := 3, ground := Ground.phase }, { on := 4, ground := Ground.phase }, { on := 5, ground := Ground.phase }, { on := 6, ground := Ground.phase }, { on := 7, ground := Ground.phase }, { on := 8, ground := Ground.phase }, { on := 9, ground := Ground.phase }], guard := none }) (v := ?_) rfl (by kernel_rfl) (by kernel_rfl) (by kernel_rfl) (fun _ _ _ h => h) (Or.inl ⟨by rfl, ?_⟩) (by assumption) ?_
                  rotate_left
                  · (intro w hSw; (try dsimp only at hSw); go_simp); (try with_reducible rfl)
                  try simp only [Act.put, List.setIfInBounds_toArray, List.set_cons_zero, List.set_cons_succ]
                  refine wpAnyH_done (by kernel_rfl) ?_ _
                  clear hHeld5
                  go_wp2_with fail
                  go_meet
                  exact ⟨B, rfl, bx, rfl, hbz9⟩
              · go_simp
                obtain ⟨wz8, hwz⟩ : ∃ v, v = wz0.alloc (Obj.cells #[.int .i64 0, .int .i64 0] 33) := ⟨_, rfl⟩
                rw [← hwz]
                have hl : Below wz0.heap.size wz0 wz8 := by rw [hwz]; exact below_new _ _
                have hbz8 := bthen hbz0 hl
                have bx : Box2 wz8 wz0.heap.size (.int .i64 0) (.int .i64 0) := by rw [hwz]; exact Box2.new _ _ _ _
                have hB : w8.heap.size ≤ wz0.heap.size := (hbz0).size
                generalize wz0.heap.size = B at bx hB ⊢
                clear hwz
                clear hl
                refine hK.out _ _ ⟨cellb e0 hbz8, cellb e1 hbz8⟩ (fun hHeld2 => ?_)
                clear hK K hHeld1
                try simp only [Act.put, List.setIfInBounds_toArray, List.set_cons_zero, List.set_cons_succ]
                refine wpAnyH_ready (rs := [2]) (by kernel_rfl) (by simp) ?_
                refine (AllReadyH.cons (o := { dst := some 91, op := Op.call { callee := Callee.builtin Builtin.append, args := #[Operand.tmp 89, Operand.tmp 90], argTypes := #[25, 24] }, type := 25, pos := "top03_wt47d.go:74", after := #[{ on := 0, ground := Ground.data }, { on := 1, ground := Ground.data }], guard := none }) rfl (fun K hK => ?_) AllReadyH.nil)
                rw [if_pos (by rfl)]
                refine wp_append_fresh (.tmp 89) (.tmp 90) 25 24 3 3 rfl i0 (.int .i64 0) Try.underlying25 Try.underlying24 hi hz0 hz1 hz2 _ 0 rfl _ [p0, p1] rfl (hipx.carry hbz8) (by simp [mulP]) ?_
                intro ba oa ca wz2 hia hl
                have hbz2 := bthen hbz8 hl
                have bx := bx.carry hl
                clear hl
                refine hK.out _ _ ⟨cellb e0 hbz2, cellb e1 hbz2⟩ (fun hHeld3 => ?_)
                clear hK K hHeld2
                try simp only [Act.put, List.setIfInBounds_toArray, List.set_cons_zero, List.set_cons_succ]
                refine wpAnyH_ready (rs := [4]) (by kernel_rfl) (by simp) ?_
                refine (AllReadyH.cons (o := { dst := some 93, op := Op.call { callee := Callee.value (Operand.func 8), args := #[Operand.tmp 91, Operand.tmp 92], argTypes := #[25, 33] }, type := 34, pos := "top03_wt47d.go:74", after := #[{ on := 2, ground := Ground.data }, { on := 3, ground := Ground.data }, { on := 2, ground := Ground.chain }], guard := none }) rfl (fun K hK => ?_) AllReadyH.nil)
                go_simp
                have tv := Value_any _ [p0, p1] z.1 z.2 wz2 hia (by simp [mulP])
                rw [HE9.out, ← HY9.out] at tv
                refine tv.mono ?_
                clear tv
                rintro e wz4 ⟨rfl, hl⟩
                (try go_wp2_with fail)
                have hbz4 := bthen hbz2 hl
                have bx := bx.carry hl
                have hia := hia.carry hl
                clear hl
                refine hK.out _ _ ⟨cellb e0 hbz4, cellb e1 hbz4⟩ (fun hHeld4 => ?_)
                clear hK K hHeld3
                try simp only [Act.put, List.setIfInBounds_toArray, List.set_cons_zero, List.set_cons_succ]
                refine wpAnyH_take (i := 5) (oi := { dst := some 88, op := Op.move (Operand.tmp 93), type := 34, pos := "top03_wt47d.go:74", after := #[{ on := 4, ground := Ground.data }], guard := none }) (v := ?_) rfl (by kernel_rfl) (by kernel_rfl) (by kernel_rfl) (fun _ _ _ h => h) (Or.inl ⟨by rfl, ?_⟩) (by assumption) ?_
                rotate_left
                · (intro w hSw; (try dsimp only at hSw); go_simp); (try with_reducible rfl)
                try simp only [Act.put, List.setIfInBounds_toArray, List.set_cons_zero, List.set_cons_succ]
                refine wpAnyH_take (i := 6) (oi := { dst := some 94, op := Op.extract (Operand.tmp 88) 0, type := 33, pos := "top03_wt47d.go:74", after := #[{ on := 5, ground := Ground.data }], guard := none }) (v := ?_) rfl (by kernel_rfl) (by kernel_rfl) (by kernel_rfl) (fun _ _ _ h => h) (Or.inl ⟨by rfl, ?_⟩) (by assumption) ?_
                rotate_left
                · (intro w hSw; (try dsimp only at hSw); go_simp); (try with_reducible rfl)
                try simp only [Act.put, List.setIfInBounds_toArray, List.set_cons_zero, List.set_cons_succ]
                refine wpAnyH_take (i := 7) (oi := { dst := some 95, op := Op.extract (Operand.tmp 88) 1, type := 26, pos := "top03_wt47d.go:74", after := #[{ on := 5, ground := Ground.data }, { on := 9, ground := Ground.gcOnly Departure.lateStores }], guard := none }) (v := ?_) rfl (by kernel_rfl) (by kernel_rfl) (by kernel_rfl) (fun _ _ _ h => h) (Or.inl ⟨by rfl, ?_⟩) (by assumption) ?_
                rotate_left
                · (intro w hSw; (try dsimp only at hSw); go_simp); (try with_reducible rfl)
                try simp only [Act.put, List.setIfInBounds_toArray, List.set_cons_zero, List.set_cons_succ]
                refine wpAnyH_ready (rs := [9]) (by kernel_rfl) (by simp) ?_
                refine (AllReadyH.cons (o := { dst := none, op := Op.store 33 (Operand.tmp 15) (Operand.tmp 94), type := 0, pos := "top03_wt47d.go:74", after := #[{ on := 8, ground := Ground.data }, { on := 6, ground := Ground.data }, { on := 4, ground := Ground.chain }, { on := 0, ground := Ground.phase }, { on := 1, ground := Ground.phase }, { on := 2, ground := Ground.phase }, { on := 3, ground := Ground.phase }, { on := 4, ground := Ground.phase }, { on := 5, ground := Ground.phase }, { on := 6, ground := Ground.phase }, { on := 7, ground := Ground.textOnly Departure.lateStores }, { on := 8, ground := Ground.phase }], guard := none }) rfl (fun K hK => ?_) AllReadyH.nil)
                have bx' := bx
                obtain ⟨bc0, bc1, bf0, bf1⟩ := bx'
                go_simp
                obtain ⟨wz9, hwz⟩ : ∃ v, v = (wz4.setCell ⟨B, 0, none⟩ (.int .i64 y9.1)).setCell ⟨B, 1, none⟩ (.int .i64 y9.2) := ⟨_, rfl⟩
                rw [← hwz]
                have hbz9 : Below w8.heap.size w8 wz9 := by rw [hwz]; exact (hbz4.setCell hB _).setCell hB _
                have bx := bx.set (.int .i64 y9.1) (.int .i64 y9.2)
                rw [← hwz] at bx
                clear hwz
                refine hK.out _ _ ⟨cellb e0 hbz9, cellb e1 hbz9⟩ (fun hHeld5 => ?_)
                clear hK K hHeld4
                try simp only [Act.put, List.setIfInBounds_toArray, List.set_cons_zero, List.set_cons_succ]
                refine wpAnyH_take (i := 10) (oi := { dst := some 16, op := Op.assign (Operand.tmp 95), type := 26, pos := "top03_wt47d.go:74", after := #[{ on := 7, ground := Ground.data }, { on := 9, ground := Ground.chain }, { on := 0, ground := Ground.phase }, { on := 1, ground := Ground.phase }, { on := 2, ground := Ground.phase }, { on := 3, ground := Ground.phase }, { on := 4, ground := Ground.phase }, { on := 5, ground := Ground.phase }, { on := 6, ground := Ground.phase }, { on := 7, ground := Ground.phase }, { on := 8, ground := Ground.phase }, { on := 9, ground := Ground.phase }], guard := none }) (v := ?_) rfl (by kernel_rfl) (by kernel_rfl) (by kernel_rfl) (fun _ _ _ h => h) (Or.inl ⟨by rfl, ?_⟩) (by assumption) ?_
                rotate_left
                · (intro w hSw; (try dsimp only at hSw); go_simp); (try with_reducible rfl)
                try simp only [Act.put, List.setIfInBounds_toArray, List.set_cons_zero, List.set_cons_succ]
                refine wpAnyH_done (by kernel_rfl) ?_ _
                clear hHeld5
                go_wp2_with fail
                go_meet
                exact ⟨B, rfl, bx, rfl, hbz9⟩
            · go_simp
              obtain ⟨wz8, hwz⟩ : ∃ v, v = wzd.alloc (Obj.cells #[.int .i64 0, .int .i64 0] 33) := ⟨_, rfl⟩
              rw [← hwz]
              have hl : Below wzd.heap.size wzd wz8 := by rw [hwz]; exact below_new _ _
              have hbz8 := bthen hbzd hl
              have bx : Box2 wz8 wzd.heap.size (.int .i64 0) (.int .i64 0) := by rw [hwz]; exact Box2.new _ _ _ _
              have hB : w8.heap.size ≤ wzd.heap.size := (hbzd).size
              generalize wzd.heap.size = B at bx hB ⊢
              clear hwz
              clear hl
              refine hK.out _ _ ⟨cellb e0 hbz8, cellb e1 hbz8⟩ (fun hHeld1 => ?_)
              clear hK K hHeld0
              try simp only [Act.put, List.setIfInBounds_toArray, List.set_cons_zero, List.set_cons_succ]
              refine wpAnyH_ready (rs := [0]) (by kernel_rfl) (by simp) ?_
              refine (AllReadyH.cons (o := { dst := some 89, op := Op.buildSlice 25 0 #[], type := 25, pos := "top03_wt47d.go:74", after := #[], guard := none }) rfl (fun K hK => ?_) AllReadyH.nil)
              go_simp
              obtain ⟨wz0, hwz⟩ : ∃ v, v = wz8.alloc (Obj.cells #[] 3) := ⟨_, rfl⟩
              rw [← hwz]
              have hl : Below wz8.heap.size wz8 wz0 := by rw [hwz]; exact below_new _ _
              have hbz0 := bthen hbz8 hl
              clear hwz
              have bx := bx.carry hl
              clear hl
              refine hK.out _ _ ⟨cellb e0 hbz0, cellb e1 hbz0⟩ (fun hHeld2 => ?_)
              clear hK K hHeld1
              try simp only [Act.put, List.setIfInBounds_toArray, List.set_cons_zero, List.set_cons_succ]
              refine wpAnyH_ready (rs := [2]) (by kernel_rfl) (by simp) ?_
              refine (AllReadyH.cons (o := { dst := some 91, op := Op.call { callee := Callee.builtin Builtin.append, args := #[Operand.tmp 89, Operand.tmp 90], argTypes := #[25, 24] }, type := 25, pos := "top03_wt47d.go:74", after := #[{ on := 0, ground := Ground.data }, { on := 1, ground := Ground.data }], guard := none }) rfl (fun K hK => ?_) AllReadyH.nil)
              rw [if_pos (by rfl)]
              refine wp_append_fresh (.tmp 89) (.tmp 90) 25 24 3 3 rfl i0 (.int .i64 0) Try.underlying25 Try.underlying24 hi hz0 hz1 hz2 _ 0 rfl _ [p0, p1] rfl (hipx.carry hbz0) (by simp [mulP]) ?_
              intro ba oa ca wz2 hia hl
              have hbz2 := bthen hbz0 hl
              have bx := bx.carry hl
              clear hl
              refine hK.out _ _ ⟨cellb e0 hbz2, cellb e1 hbz2⟩ (fun hHeld3 => ?_)
              clear hK K hHeld2
              try simp only [Act.put, List.setIfInBounds_toArray, List.set_cons_zero, List.set_cons_succ]
              refine wpAnyH_ready (rs := [4]) (by kernel_rfl) (by simp) ?_
              refine (AllReadyH.cons (o := { dst := some 93, op := Op.call { callee := Callee.value (Operand.func 8), args := #[Operand.tmp 91, Operand.tmp 92], argTypes := #[25, 33] }, type := 34, pos := "top03_wt47d.go:74", after := #[{ on := 2, ground := Ground.data }, { on := 3, ground := Ground.data }, { on := 2, ground := Ground.chain }], guard := none }) rfl (fun K hK => ?_) AllReadyH.nil)
              go_simp
              have tv := Value_any _ [p0, p1] z.1 z.2 wz2 hia (by simp [mulP])
              rw [HE9.out, ← HY9.out] at tv
              refine tv.mono ?_
              clear tv
              rintro e wz4 ⟨rfl, hl⟩
              (try go_wp2_with fail)
              have hbz4 := bthen hbz2 hl
              have bx := bx.carry hl
              have hia := hia.carry hl
              clear hl
              refine hK.out _ _ ⟨cellb e0 hbz4, cellb e1 hbz4⟩ (fun hHeld4 => ?_)
              clear hK K hHeld3
              try simp only [Act.put, List.setIfInBounds_toArray, List.set_cons_zero, List.set_cons_succ]
              refine wpAnyH_take (i := 5) (oi := { dst := some 88, op := Op.move (Operand.tmp 93), type := 34, pos := "top03_wt47d.go:74", after := #[{ on := 4, ground := Ground.data }], guard := none }) (v := ?_) rfl (by kernel_rfl) (by kernel_rfl) (by kernel_rfl) (fun _ _ _ h => h) (Or.inl ⟨by rfl, ?_⟩) (by assumption) ?_
              rotate_left
              · (intro w hSw; (try dsimp only at hSw); go_simp); (try with_reducible rfl)
              try simp only [Act.put, List.setIfInBounds_toArray, List.set_cons_zero, List.set_cons_succ]
              refine wpAnyH_take (i := 6) (oi := { dst := some 94, op := Op.extract (Operand.tmp 88) 0, type := 33, pos := "top03_wt47d.go:74", after := #[{ on := 5, ground := Ground.data }], guard := none }) (v := ?_) rfl (by kernel_rfl) (by kernel_rfl) (by kernel_rfl) (fun _ _ _ h => h) (Or.inl ⟨by rfl, ?_⟩) (by assumption) ?_
              rotate_left
              · (intro w hSw; (try dsimp only at hSw); go_simp); (try with_reducible rfl)
              try simp only [Act.put, List.setIfInBounds_toArray, List.set_cons_zero, List.set_cons_succ]
              refine wpAnyH_take (i := 7) (oi := { dst := some 95, op := Op.extract (Operand.tmp 88) 1, type := 26, pos := "top03_wt47d.go:74", after := #[{ on := 5, ground := Ground.data }, { on := 9, ground := Ground.gcOnly Departure.lateStores }], guard := none }) (v := ?_) rfl (by kernel_rfl) (by kernel_rfl) (by kernel_rfl) (fun _ _ _ h => h) (Or.inl ⟨by rfl, ?_⟩) (by assumption) ?_
              rotate_left
              · (intro w hSw; (try dsimp only at hSw); go_simp); (try with_reducible rfl)
              try simp only [Act.put, List.setIfInBounds_toArray, List.set_cons_zero, List.set_cons_succ]
              refine wpAnyH_ready (rs := [9]) (by kernel_rfl) (by simp) ?_
              refine (AllReadyH.cons (o := { dst := none, op := Op.store 33 (Operand.tmp 15) (Operand.tmp 94), type := 0, pos := "top03_wt47d.go:74", after := #[{ on := 8, ground := Ground.data }, { on := 6, ground := Ground.data }, { on := 4, ground := Ground.chain }, { on := 0, ground := Ground.phase }, { on := 1, ground := Ground.phase }, { on := 2, ground := Ground.phase }, { on := 3, ground := Ground.phase }, { on := 4, ground := Ground.phase }, { on := 5, ground := Ground.phase }, { on := 6, ground := Ground.phase }, { on := 7, ground := Ground.textOnly Departure.lateStores }, { on := 8, ground := Ground.phase }], guard := none }) rfl (fun K hK => ?_) AllReadyH.nil)
              have bx' := bx
              obtain ⟨bc0, bc1, bf0, bf1⟩ := bx'
              go_simp
              obtain ⟨wz9, hwz⟩ : ∃ v, v = (wz4.setCell ⟨B, 0, none⟩ (.int .i64 y9.1)).setCell ⟨B, 1, none⟩ (.int .i64 y9.2) := ⟨_, rfl⟩
              rw [← hwz]
              have hbz9 : Below w8.heap.size w8 wz9 := by rw [hwz]; exact (hbz4.setCell hB _).setCell hB _
              have bx := bx.set (.int .i64 y9.1) (.int .i64 y9.2)
              rw [← hwz] at bx
              clear hwz
              refine hK.out _ _ ⟨cellb e0 hbz9, cellb e1 hbz9⟩ (fun hHeld5 => ?_)
              clear hK K hHeld4
              try simp only [Act.put, List.setIfInBounds_toArray, List.set_cons_zero, List.set_cons_succ]
              refine wpAnyH_take (i := 10) (oi := { dst := some 16, op := Op.assign (Operand.tmp 95), type := 26, pos := "top03_wt47d.go:74", after := #[{ on := 7, ground := Ground.data }, { on := 9, ground := Ground.chain }, { on := 0, ground := Ground.phase }, { on := 1, ground := Ground.phase }, { on := 2, ground := Ground.phase }, { on := 3, ground := Ground.phase }, { on := 4, ground := Ground.phase }, { on := 5, ground := Ground.phase }, { on := 6, ground := Ground.phase }, { on := 7, ground := Ground.phase }, { on := 8, ground := Ground.phase }, { on := 9, ground := Ground.phase }], guard := none }) (v := ?_) rfl (by kernel_rfl) (by kernel_rfl) (by kernel_rfl) (fun _ _ _ h => h) (Or.inl ⟨by rfl, ?_⟩) (by assumption) ?_
              rotate_left
              · (intro w hSw; (try dsimp only at hSw); go_simp); (try with_reducible rfl)
              try simp only [Act.put, List.setIfInBounds_toArray, List.set_cons_zero, List.set_cons_succ]
              refine wpAnyH_done (by kernel_rfl) ?_ _
              clear hHeld5
              go_wp2_with fail
              go_meet
              exact ⟨B, rfl, bx, rfl, hbz9⟩
          case rest =>
            obtain ⟨B9, rfl, x9, rfl, hl9⟩ := hcut
            obtain ⟨w9, rfl⟩ : ∃ w9, w9 = wc := ⟨_, rfl⟩
            have hbx := bthen hbx hl9
            have himx := himx.carry hl9
            have hipx := hipx.carry hl9
            have hiqx := hiqx.carry hl9
            have zb := zb.carry hl9
            have zb' := zb
            obtain ⟨e0, e1, _, _⟩ := zb'
            have hE10 : valueE [q0, q1] z.1 z.2 = 0 := HV.out.1.2
            have HE10 := Lib.hid hE10
            clear hE10
            obtain ⟨y10, hy10⟩ : ∃ y, y = valueR [q0, q1] z.1 z.2 := ⟨_, rfl⟩
            have HY10 := Lib.hid hy10
            clear hy10
            go_upto_region 10 with fail
            go_cut [17, 18] (fun va vb wn => ∃ B, va = .pointer (some ⟨B, 0, none⟩) ∧ Box2 wn B (.int .i64 y10.1) (.int .i64 y10.2) ∧ vb = .int .i64 0 ∧ Below w9.heap.size w9 wn)
            case first =>
              refine wp_region_held_drew (S := (fun w' => w'.cell? ⟨wr.heap.size, 0, none⟩ = some (.int .i64 z.1) ∧ w'.cell? ⟨wr.heap.size, 1, none⟩ = some (.int .i64 z.2))) (by kernel_rfl) ⟨cellb e0 (Below.refl _ _).drew, cellb e1 (Below.refl _ _).drew⟩ (fun hHeld0 => ?_)
              obtain ⟨wzd, hwz⟩ : ∃ v, v = w9.drew := ⟨_, rfl⟩
              rw [← hwz] at hHeld0 ⊢
              have hbzd : Below w9.heap.size w9 wzd := by rw [hwz]; exact (Below.refl _ _).drew
              clear hwz
              refine wpAnyH_take (i := 1) (oi := { dst := some 98, op := Op.move (Operand.tmp 8), type := 24, pos := "top03_wt47d.go:75", after := #[], guard := none }) (v := ?_) rfl (by kernel_rfl) (by kernel_rfl) (by kernel_rfl) (fun _ _ _ h => h) (Or.inl ⟨by rfl, ?_⟩) (by assumption) ?_
              rotate_left
              · (intro w hSw; (try dsimp only at hSw); go_simp); (try with_reducible rfl)
              try simp only [Act.put, List.setIfInBounds_toArray, List.set_cons_zero, List.set_cons_succ]
              refine wpAnyH_take (i := 3) (oi := { dst := some 100, op := Op.load 33 (Operand.tmp 12), type := 33, pos := "top03_wt47d.go:75", after := #[], guard := none }) (v := ?_) rfl (by kernel_rfl) (by kernel_rfl) (by kernel_rfl) (fun _ _ _ h => h) (Or.inl ⟨by rfl, ?_⟩) (by assumption) ?_
              rotate_left
              · (intro w hSw; (try dsimp only at hSw); go_simp); (try with_reducible rfl)
              try simp only [Act.put, List.setIfInBounds_toArray, List.set_cons_zero, List.set_cons_succ]
              refine wpAnyH_ready (rs := [0, 8]) (by kernel_rfl) (by simp) ?_
              refine (AllReadyH.cons (o := { dst := some 97, op := Op.buildSlice 25 0 #[], type := 25, pos := "top03_wt47d.go:75", after := #[], guard := none }) rfl (fun K hK => ?_) (AllReadyH.cons (o := { dst := some 17, op := Op.alloc 33, type := 0, pos := "top03_wt47d.go:75", after := #[], guard := none }) rfl (fun K hK => ?_) AllReadyH.nil))
              · go_simp
                obtain ⟨wz0, hwz⟩ : ∃ v, v = wzd.alloc (Obj.cells #[] 3) := ⟨_, rfl⟩
                rw [← hwz]
                have hl : Below wzd.heap.size wzd wz0 := by rw [hwz]; exact below_new _ _
                have hbz0 := bthen hbzd hl
                clear hwz
                clear hl
                refine hK.out _ _ ⟨cellb e0 hbz0, cellb e1 hbz0⟩ (fun hHeld1 => ?_)
                clear hK K hHeld0
                try simp only [Act.put, List.setIfInBounds_toArray, List.set_cons_zero, List.set_cons_succ]
                refine wpAnyH_ready (rs := [2, 8]) (by kernel_rfl) (by simp) ?_
                refine (AllReadyH.cons (o := { dst := some 99, op := Op.call { callee := Callee.builtin Builtin.append, args := #[Operand.tmp 97, Operand.tmp 98], argTypes := #[25, 24] }, type := 25, pos := "top03_wt47d.go:75", after := #[{ on := 0, ground := Ground.data }, { on := 1, ground := Ground.data }], guard := none }) rfl (fun K hK => ?_) (AllReadyH.cons (o := { dst := some 17, op := Op.alloc 33, type := 0, pos := "top03_wt47d.go:75", after := #[], guard := none }) rfl (fun K hK => ?_) AllReadyH.nil))
                · rw [if_pos (by rfl)]
                  refine wp_append_fresh (.tmp 97) (.tmp 98) 25 24 3 3 rfl i0 (.int .i64 0) Try.underlying25 Try.underlying24 hi hz0 hz1 hz2 _ 0 rfl _ [q0, q1] rfl (hiqx.carry hbz0) (by simp [mulP]) ?_
                  intro ba oa ca wz2 hia hl
                  have hbz2 := bthen hbz0 hl
                  clear hl
                  refine hK.out _ _ ⟨cellb e0 hbz2, cellb e1 hbz2⟩ (fun hHeld2 => ?_)
                  clear hK K hHeld1
                  try simp only [Act.put, List.setIfInBounds_toArray, List.set_cons_zero, List.set_cons_succ]
                  refine wpAnyH_ready (rs := [4, 8]) (by kernel_rfl) (by simp) ?_
                  refine (AllReadyH.cons (o := { dst := some 101, op := Op.call { callee := Callee.value (Operand.func 8), args := #[Operand.tmp 99, Operand.tmp 100], argTypes := #[25, 33] }, type := 34, pos := "top03_wt47d.go:75", after := #[{ on := 2, ground := Ground.data }, { on := 3, ground := Ground.data }, { on := 2, ground := Ground.chain }], guard := none }) rfl (fun K hK => ?_) (AllReadyH.cons (o := { dst := some 17, op := Op.alloc 33, type := 0, pos := "top03_wt47d.go:75", after := #[], guard := none }) rfl (fun K hK => ?_) AllReadyH.nil))
                  · go_simp
                    have tv := Value_any _ [q0, q1] z.1 z.2 wz2 hia (by simp [mulP])
                    rw [HE10.out, ← HY10.out] at tv
                    refine tv.mono ?_
                    clear tv
                    rintro e wz4 ⟨rfl, hl⟩
                    (try go_wp2_with fail)
                    have hbz4 := bthen hbz2 hl
                    have hia := hia.carry hl
                    clear hl
                    refine hK.out _ _ ⟨cellb e0 hbz4, cellb e1 hbz4⟩ (fun hHeld3 => ?_)
                    clear hK K hHeld2
                    try simp only [Act.put, List.setIfInBounds_toArray, List.set_cons_zero, List.set_cons_succ]
                    refine wpAnyH_take (i := 5) (oi := { dst := some 96, op := Op.move (Operand.tmp 101), type := 34, pos := "top03_wt47d.go:75", after := #[{ on := 4, ground := Ground.data }], guard := none }) (v := ?_) rfl (by kernel_rfl) (by kernel_rfl) (by kernel_rfl) (fun _ _ _ h => h) (Or.inl ⟨by rfl, ?_⟩) (by assumption) ?_
                    rotate_left
                    · (intro w hSw; (try dsimp only at hSw); go_simp); (try with_reducible rfl)
                    try simp only [Act.put, List.setIfInBounds_toArray, List.set_cons_zero, List.set_cons_succ]
                    refine wpAnyH_take (i := 6) (oi := { dst := some 102, op := Op.extract (Operand.tmp 96) 0, type := 33, pos := "top03_wt47d.go:75", after := #[{ on := 5, ground := Ground.data }], guard := none }) (v := ?_) rfl (by kernel_rfl) (by kernel_rfl) (by kernel_rfl) (fun _ _ _ h => h) (Or.inl ⟨by rfl, ?_⟩) (by assumption) ?_
                    rotate_left
                    · (intro w hSw; (try dsimp only at hSw); go_simp); (try with_reducible rfl)
                    try simp only [Act.put, List.setIfInBounds_toArray, List.set_cons_zero, List.set_cons_succ]
                    refine wpAnyH_take (i := 7) (oi := { dst := some 103, op := Op.extract (Operand.tmp 96) 1, type := 26, pos := "top03_wt47d.go:75", after := #[{ on := 5, ground := Ground.data }, { on := 9, ground := Ground.gcOnly Departure.lateStores }], guard := none }) (v := ?_) rfl (by kernel_rfl) (by kernel_rfl) (by kernel_rfl) (fun _ _ _ h => h) (Or.inl ⟨by rfl, ?_⟩) (by assumption) ?_
                    rotate_left
                    · (intro w hSw; (try dsimp only at hSw); go_simp); (try with_reducible rfl)
                    try simp only [Act.put, List.setIfInBounds_toArray, List.set_cons_zero, List.set_cons_succ]
                    refine wpAnyH_ready (rs := [8]) (by kernel_rfl) (by simp) ?_
                    refine (AllReadyH.cons (o := { dst := some 17, op := Op.alloc 33, type := 0, pos := "top03_wt47d.go:75", after := #[], guard := none }) rfl (fun K hK => ?_) AllReadyH.nil)
                    go_simp
                    obtain ⟨wz8, hwz⟩ : ∃ v, v = wz4.alloc (Obj.cells #[.int .i64 0, .int .i64 0] 33) := ⟨_, rfl⟩
                    rw [← hwz]
                    have hl : Below wz4.heap.size wz4 wz8 := by rw [hwz]; exact below_new _ _
                    have hbz8 := bthen hbz4 hl
                    have bx : Box2 wz8 wz4.heap.size (.int .i64 0) (.int .i64 0) := by rw [hwz]; exact Box2.new _ _ _ _
                    have hB : w9.heap.size ≤ wz4.heap.size := (hbz4).size
                    generalize wz4.heap.size = B at bx hB ⊢
                    clear hwz
                    have hia := hia.carry hl
                    clear hl
                    refine hK.out _ _ ⟨cellb e0 hbz8, cellb e1 hbz8⟩ (fun hHeld4 => ?_)
                    clear hK K hHeld3
                    try simp only [Act.put, List.setIfInBounds_toArray, List.set_cons_zero, List.set_cons_succ]
                    refine wpAnyH_ready (rs := [9]) (by kernel_rfl) (by simp) ?_
                    refine (AllReadyH.cons (o := { dst := none, op := Op.store 33 (Operand.tmp 17) (Operand.tmp 102), type := 0, pos := "top03_wt47d.go:75", after := #[{ on := 8, ground := Ground.data }, { on := 6, ground := Ground.data }, { on := 4, ground := Ground.chain }, { on := 0, ground := Ground.phase }, { on := 1, ground := Ground.phase }, { on := 2, ground := Ground.phase }, { on := 3, ground := Ground.phase }, { on := 4, ground := Ground.phase }, { on := 5, ground := Ground.phase }, { on := 6, ground := Ground.phase }, { on := 7, ground := Ground.textOnly Departure.lateStores }, { on := 8, ground := Ground.phase }], guard := none }) rfl (fun K hK => ?_) AllReadyH.nil)
                    have bx' := bx
                    obtain ⟨bc0, bc1, bf0, bf1⟩ := bx'
                    go_simp
                    obtain ⟨wz9, hwz⟩ : ∃ v, v = (wz8.setCell ⟨B, 0, none⟩ (.int .i64 y10.1)).setCell ⟨B, 1, none⟩ (.int .i64 y10.2) := ⟨_, rfl⟩
                    rw [← hwz]
                    have hbz9 : Below w9.heap.size w9 wz9 := by rw [hwz]; exact (hbz8.setCell hB _).setCell hB _
                    have bx := bx.set (.int .i64 y10.1) (.int .i64 y10.2)
                    rw [← hwz] at bx
                    clear hwz
                    refine hK.out _ _ ⟨cellb e0 hbz9, cellb e1 hbz9⟩ (fun hHeld5 => ?_)
                    clear hK K hHeld4
                    try simp only [Act.put, List.setIfInBounds_toArray, List.set_cons_zero, List.set_cons_succ]
                    refine wpAnyH_take (i := 10) (oi := { dst := some 18, op := Op.assign (Operand.tmp 103), type := 26, pos := "top03_wt47d.go:75", after := #[{ on := 7, ground := Ground.data }, { on := 9, ground := Ground.chain }, { on := 0, ground := Ground.phase }, { on := 1, ground := Ground.phase }, { on := 2, ground := Ground.phase }, { on := 3, ground := Ground.phase }, { on := 4, ground := Ground.phase }, { on := 5, ground := Ground.phase }, { on := 6, ground := Ground.phase }, { on := 7, ground := Ground.phase }, { on := 8, ground := Ground.phase }, { on := 9, ground := Ground.phase }], guard := none }) (v := ?_) rfl (by kernel_rfl) (by kernel_rfl) (by kernel_rfl) (fun _ _ _ h => h) (Or.inl ⟨by rfl, ?_⟩) (by assumption) ?_
                    rotate_left
                    · (intro w hSw; (try dsimp only at hSw); go_simp); (try with_reducible rfl)
                    try simp only [Act.put, List.setIfInBounds_toArray, List.set_cons_zero, List.set_cons_succ]
                    refine wpAnyH_done (by kernel_rfl) ?_ _
                    clear hHeld5
                    go_wp2_with fail
                    go_meet
                    exact ⟨B, rfl, bx, rfl, hbz9⟩
                  · go_simp
                    obtain ⟨wz8, hwz⟩ : ∃ v, v = wz2.alloc (Obj.cells #[.int .i64 0, .int .i64 0] 33) := ⟨_, rfl⟩
                    rw [← hwz]
                    have hl : Below wz2.heap.size wz2 wz8 := by rw [hwz]; exact below_new _ _
                    have hbz8 := bthen hbz2 hl
                    have bx : Box2 wz8 wz2.heap.size (.int .i64 0) (.int .i64 0) := by rw [hwz]; exact Box2.new _ _ _ _
                    have hB : w9.heap.size ≤ wz2.heap.size := (hbz2).size
                    generalize wz2.heap.size = B at bx hB ⊢
                    clear hwz
                    have hia := hia.carry hl
                    clear hl
                    refine hK.out _ _ ⟨cellb e0 hbz8, cellb e1 hbz8⟩ (fun hHeld3 => ?_)
                    clear hK K hHeld2
                    try simp only [Act.put, List.setIfInBounds_toArray, List.set_cons_zero, List.set_cons_succ]
                    refine wpAnyH_ready (rs := [4]) (by kernel_rfl) (by simp) ?_
                    refine (AllReadyH.cons (o := { dst := some 101, op := Op.call { callee := Callee.value (Operand.func 8), args := #[Operand.tmp 99, Operand.tmp 100], argTypes := #[25, 33] }, type := 34, pos := "top03_wt47d.go:75", after := #[{ on := 2, ground := Ground.data }, { on := 3, ground := Ground.data }, { on := 2, ground := Ground.chain }], guard := none }) rfl (fun K hK => ?_) AllReadyH.nil)
                    go_simp
                    have tv := Value_any _ [q0, q1] z.1 z.2 wz8 hia (by simp [mulP])
                    rw [HE10.out, ← HY10.out] at tv
                    refine tv.mono ?_
                    clear tv
                    rintro e wz4 ⟨rfl, hl⟩
                    (try go_wp2_with fail)
                    have hbz4 := bthen hbz8 hl
                    have hia := hia.carry hl
                    have bx := bx.carry hl
                    clear hl
                    refine hK.out _ _ ⟨cellb e0 hbz4, cellb e1 hbz4⟩ (fun hHeld4 => ?_)
                    clear hK K hHeld3
                    try simp only [Act.put, List.setIfInBounds_toArray, List.set_cons_zero, List.set_cons_succ]
                    refine wpAnyH_take (i := 5) (oi := { dst := some 96, op := Op.move (Operand.tmp 101), type := 34, pos := "top03_wt47d.go:75", after := #[{ on := 4, ground := Ground.data }], guard := none }) (v := ?_) rfl (by kernel_rfl) (by kernel_rfl) (by kernel_rfl) (fun _ _ _ h => h) (Or.inl ⟨by rfl, ?_⟩) (by assumption) ?_
                    rotate_left
                    · (intro w hSw; (try dsimp only at hSw); go_simp); (try with_reducible rfl)
                    try simp only [Act.put, List.setIfInBounds_toArray, List.set_cons_zero, List.set_cons_succ]
                    refine wpAnyH_take (i := 6) (oi := { dst := some 102, op := Op.extract (Operand.tmp 96) 0, type := 33, pos := "top03_wt47d.go:75", after := #[{ on := 5, ground := Ground.data }], guard := none }) (v := ?_) rfl (by kernel_rfl) (by kernel_rfl) (by kernel_rfl) (fun _ _ _ h => h) (Or.inl ⟨by rfl, ?_⟩) (by assumption) ?_
                    rotate_left
                    · (intro w hSw; (try dsimp only at hSw); go_simp); (try with_reducible rfl)
                    try simp only [Act.put, List.setIfInBounds_toArray, List.set_cons_zero, List.set_cons_succ]
                    refine wpAnyH_take (i := 7) (oi := { dst := some 103, op := Op.extract (Operand.tmp 96) 1, type := 26, pos := "top03_wt47d.go:75", after := #[{ on := 5, ground := Ground.data }, { on := 9, ground := Ground.gcOnly Departure.lateStores }], guard := none }) (v := ?_) rfl (by kernel_rfl) (by kernel_rfl) (by kernel_rfl) (fun _ _ _ h => h) (Or.inl ⟨by rfl, ?_⟩) (by assumption) ?_
                    rotate_left
                    · (intro w hSw; (try dsimp only at hSw); go_simp); (try with_reducible rfl)
                    try simp only [Act.put, List.setIfInBounds_toArray, List.set_cons_zero, List.set_cons_succ]
                    refine wpAnyH_ready (rs := [9]) (by kernel_rfl) (by simp) ?_
                    refine (AllReadyH.cons (o := { dst := none, op := Op.store 33 (Operand.tmp 17) (Operand.tmp 102), type := 0, pos := "top03_wt47d.go:75", after := #[{ on := 8, ground := Ground.data }, { on := 6, ground := Ground.data }, { on := 4, ground := Ground.chain }, { on := 0, ground := Ground.phase }, { on := 1, ground := Ground.phase }, { on := 2, ground := Ground.phase }, { on := 3, ground := Ground.phase }, { on := 4, ground := Ground.phase }, { on := 5, ground := Ground.phase }, { on := 6, ground := Ground.phase }, { on := 7, ground := Ground.textOnly Departure.lateStores }, { on := 8, ground := Ground.phase }], guard := none }) rfl (fun K hK => ?_) AllReadyH.nil)
                    have bx' := bx
                    obtain ⟨bc0, bc1, bf0, bf1⟩ := bx'
                    go_simp
                    obtain ⟨wz9, hwz⟩ : ∃ v, v = (wz4.setCell ⟨B, 0, none⟩ (.int .i64 y10.1)).setCell ⟨B, 1, none⟩ (.int .i64 y10.2) := ⟨_, rfl⟩
                    rw [← hwz]
                    have hbz9 : Below w9.heap.size w9 wz9 := by rw [hwz]; exact (hbz4.setCell hB _).setCell hB _
                    have bx := bx.set (.int .i64 y10.1) (.int .i64 y10.2)
                    rw [← hwz] at bx
                    clear hwz
                    refine hK.out _ _ ⟨cellb e0 hbz9, cellb e1 hbz9⟩ (fun hHeld5 => ?_)
                    clear hK K hHeld4
                    try simp only [Act.put, List.setIfInBounds_toArray, List.set_cons_zero, List.set_cons_succ]
                    refine wpAnyH_take (i := 10) (oi := { dst := some 18, op := Op.assign (Operand.tmp 103), type := 26, pos := "top03_wt47d.go:75", after := #[{ on := 7, ground := Ground.data }, { on := 9, ground := Ground.chain }, { on := 0, ground := Ground.phase }, { on := 1, ground := Ground.phase }, { on := 2, ground := Ground.phase }, { on := 3, ground := Ground.phase }, { on := 4, ground := Ground.phase }, { on := 5, ground := Ground.phase }, { on := 6, ground := Ground.phase }, { on := 7, ground := Ground.phase }, { on := 8, ground := Ground.phase }, { on := 9, ground := Ground.phase }], guard := none }) (v := ?_) rfl (by kernel_rfl) (by kernel_rfl) (by kernel_rfl) (fun _ _ _ h => h) (Or.inl ⟨by rfl, ?_⟩) (by assumption) ?_
                    rotate_left
                    · (intro w hSw; (try dsimp only at hSw); go_simp); (try with_reducible rfl)
                    try simp only [Act.put, List.setIfInBounds_toArray, List.set_cons_zero, List.set_cons_succ]
                    refine wpAnyH_done (by kernel_rfl) ?_ _
                    clear hHeld5
                    go_wp2_with fail
                    go_meet
                    exact ⟨B, rfl, bx, rfl, hbz9⟩
                · go_simp
                  obtain ⟨wz8, hwz⟩ : ∃ v, v = wz0.alloc (Obj.cells #[.int .i64 0, .int .i64 0] 33) := ⟨_, rfl⟩
                  rw [← hwz]
                  have hl : Below wz0.heap.size wz0 wz8 := by rw [hwz]; exact below_new _ _
                  have hbz8 := bthen hbz0 hl
                  have bx : Box2 wz8 wz0.heap.size (.int .i64 0) (.int .i64 0) := by rw [hwz]; exact Box2.new _ _ _ _
                  have hB : w9.heap.size ≤ wz0.heap.size := (hbz0).size
                  generalize wz0.heap.size = B at bx hB ⊢
                  clear hwz
                  clear hl
                  refine hK.out _ _ ⟨cellb e0 hbz8, cellb e1 hbz8⟩ (fun hHeld2 => ?_)
                  clear hK K hHeld1
                  try simp only [Act.put, List.setIfInBounds_toArray, List.set_cons_zero, List.set_cons_succ]
                  refine wpAnyH_ready (rs := [2]) (by kernel_rfl) (by simp) ?_
                  refine (AllReadyH.cons (o := { dst := some 99, op := Op.call { callee := Callee.builtin Builtin.append, args := #[Operand.tmp 97, Operand.tmp 98], argTypes := #[25, 24] }, type := 25, pos := "top03_wt47d.go:75", after := #[{ on := 0, ground := Ground.data }, { on := 1, ground := Ground.data }], guard := none }) rfl (fun K hK => ?_) AllReadyH.nil)
                  rw [if_pos (by rfl)]
                  refine wp_append_fresh (.tmp 97) (.tmp 98) 25 24 3 3 rfl i0 (.int .i64 0) Try.underlying25 Try.underlying24 hi hz0 hz1 hz2 _ 0 rfl _ [q0, q1] rfl (hiqx.carry hbz8) (by simp [mulP]) ?_
                  intro ba oa ca wz2 hia hl
                  have hbz2 := bthen hbz8 hl
                  have bx := bx.carry hl
                  clear hl
                  refine hK.out _ _ ⟨cellb e0 hbz2, cellb e1 hbz2⟩ (fun hHeld3 => ?_)
                  clear hK K hHeld2
                  try simp only [Act.put, List.setIfInBounds_toArray, List.set_cons_zero, List.set_cons_succ]
                  refine wpAnyH_ready (rs := [4]) (by kernel_rfl) (by simp) ?_
                  refine (AllReadyH.cons (o := { dst := some 101, op := Op.call { callee := Callee.value (Operand.func 8), args := #[Operand.tmp 99, Operand.tmp 100], argTypes := #[25, 33] }, type := 34, pos := "top03_wt47d.go:75", after := #[{ on := 2, ground := Ground.data }, { on := 3, ground := Ground.data }, { on := 2, ground := Ground.chain }], guard := none }) rfl (fun K hK => ?_) AllReadyH.nil)
                  go_simp
                  have tv := Value_any _ [q0, q1] z.1 z.2 wz2 hia (by simp [mulP])
                  rw [HE10.out, ← HY10.out] at tv
                  refine tv.mono ?_
                  clear tv
                  rintro e wz4 ⟨rfl, hl⟩
                  (try go_wp2_with fail)
                  have hbz4 := bthen hbz2 hl
                  have bx := bx.carry hl
                  have hia := hia.carry hl
                  clear hl
                  refine hK.out _ _ ⟨cellb e0 hbz4, cellb e1 hbz4⟩ (fun hHeld4 => ?_)
                  clear hK K hHeld3
                  try simp only [Act.put, List.setIfInBounds_toArray, List.set_cons_zero, List.set_cons_succ]
                  refine wpAnyH_take (i := 5) (oi := { dst := some 96, op := Op.move (Operand.tmp 101), type := 34, pos := "top03_wt47d.go:75", after := #[{ on := 4, ground := Ground.data }], guard := none }) (v := ?_) rfl (by kernel_rfl) (by kernel_rfl) (by kernel_rfl) (fun _ _ _ h => h) (Or.inl ⟨by rfl, ?_⟩) (by assumption) ?_
                  rotate_left
                  · (intro w hSw; (try dsimp only at hSw); go_simp); (try with_reducible rfl)
                  try simp only [Act.put, List.setIfInBounds_toArray, List.set_cons_zero, List.set_cons_succ]
                  refine wpAnyH_take (i := 6) (oi := { dst := some 102, op := Op.extract (Operand.tmp 96) 0, type := 33, pos := "top03_wt47d.go:75", after := #[{ on := 5, ground := Ground.data }], guard := none }) (v := ?_) rfl (by kernel_rfl) (by kernel_rfl) (by kernel_rfl) (fun _ _ _ h => h) (Or.inl ⟨by rfl, ?_⟩) (by assumption) ?_
                  rotate_left
                  · (intro w hSw; (try dsimp only at hSw); go_simp); (try with_reducible rfl)
                  try simp only [Act.put, List.setIfInBounds_toArray, List.set_cons_zero, List.set_cons_succ]
                  refine wpAnyH_take (i := 7) (oi := { dst := some 103, op := Op.extract (Operand.tmp 96) 1, type := 26, pos := "top03_wt47d.go:75", after := #[{ on := 5, ground := Ground.data }, { on := 9, ground := Ground.gcOnly Departure.lateStores }], guard := none }) (v := ?_) rfl (by kernel_rfl) (by kernel_rfl) (by kernel_rfl) (fun _ _ _ h => h) (Or.inl ⟨by rfl, ?_⟩) (by assumption) ?_
                  rotate_left
                  · (intro w hSw; (try dsimp only at hSw); go_simp); (try with_reducible rfl)
                  try simp only [Act.put, List.setIfInBounds_toArray, List.set_cons_zero, List.set_cons_succ]
                  refine wpAnyH_ready (rs := [9]) (by kernel_rfl) (by simp) ?_
                  refine (AllReadyH.cons (o := { dst := none, op := Op.store 33 (Operand.tmp 17) (Operand.tmp 102), type := 0, pos := "top03_wt47d.go:75", after := #[{ on := 8, ground := Ground.data }, { on := 6, ground := Ground.data }, { on := 4, ground := Ground.chain }, { on := 0, ground := Ground.phase }, { on := 1, ground := Ground.phase }, { on := 2, ground := Ground.phase }, { on := 3, ground := Ground.phase }, { on := 4, ground := Ground.phase }, { on := 5, ground := Ground.phase }, { on := 6, ground := Ground.phase }, { on := 7, ground := Ground.textOnly Departure.lateStores }, { on := 8, ground := Ground.phase }], guard := none }) rfl (fun K hK => ?_) AllReadyH.nil)
                  have bx' := bx
                  obtain ⟨bc0, bc1, bf0, bf1⟩ := bx'
                  go_simp
                  obtain ⟨wz9, hwz⟩ : ∃ v, v = (wz4.setCell ⟨B, 0, none⟩ (.int .i64 y10.1)).setCell ⟨B, 1, none⟩ (.int .i64 y10.2) := ⟨_, rfl⟩
                  rw [← hwz]
                  have hbz9 : Below w9.heap.size w9 wz9 := by rw [hwz]; exact (hbz4.setCell hB _).setCell hB _
                  have bx := bx.set (.int .i64 y10.1) (.int .i64 y10.2)
                  rw [← hwz] at bx
                  clear hwz
                  refine hK.out _ _ ⟨cellb e0 hbz9, cellb e1 hbz9⟩ (fun hHeld5 => ?_)
                  clear hK K hHeld4
                  try simp only [Act.put, List.setIfInBounds_toArray, List.set_cons_zero, List.set_cons_succ]
                  refine wpAnyH_take (i := 10) (oi := { dst := some 18, op := Op.assign (Operand.tmp 103), type := 26, pos := "top03_wt47d.go:75", after := #[{ on := 7, ground := Ground.data }, { on := 9, ground := Ground.chain }, { on := 0, ground := Ground.phase }, { on := 1, ground := Ground.phase }, { on := 2, ground := Ground.phase }, { on := 3, ground := Ground.phase }, { on := 4, ground := Ground.phase }, { on := 5, ground := Ground.phase }, { on := 6, ground := Ground.phase }, { on := 7, ground := Ground.phase }, { on := 8, ground := Ground.phase }, { on := 9, ground := Ground.phase }], guard := none }) (v := ?_) rfl (by kernel_rfl) (by kernel_rfl) (by kernel_rfl) (fun _ _ _ h => h) (Or.inl ⟨by rfl, ?_⟩) (by assumption) ?_
                  rotate_left
                  · (intro w hSw; (try dsimp only at hSw); go_simp); (try with_reducible rfl)
                  try simp only [Act.put, List.setIfInBounds_toArray, List.set_cons_zero, List.set_cons_succ]
                  refine wpAnyH_done (by kernel_rfl) ?_ _
                  clear hHeld5
                  go_wp2_with fail
                  go_meet
                  exact ⟨B, rfl, bx, rfl, hbz9⟩
              · go_simp
                obtain ⟨wz8, hwz⟩ : ∃ v, v = wzd.alloc (Obj.cells #[.int .i64 0, .int .i64 0] 33) := ⟨_, rfl⟩
                rw [← hwz]
                have hl : Below wzd.heap.size wzd wz8 := by rw [hwz]; exact below_new _ _
                have hbz8 := bthen hbzd hl
                have bx : Box2 wz8 wzd.heap.size (.int .i64 0) (.int .i64 0) := by rw [hwz]; exact Box2.new _ _ _ _
                have hB : w9.heap.size ≤ wzd.heap.size := (hbzd).size
                generalize wzd.heap.size = B at bx hB ⊢
                clear hwz
                clear hl
                refine hK.out _ _ ⟨cellb e0 hbz8, cellb e1 hbz8⟩ (fun hHeld1 => ?_)
                clear hK K hHeld0
                try simp only [Act.put, List.setIfInBounds_toArray, List.set_cons_zero, List.set_cons_succ]
                refine wpAnyH_ready (rs := [0]) (by kernel_rfl) (by simp) ?_
                refine (AllReadyH.cons (o := { dst := some 97, op := Op.buildSlice 25 0 #[], type := 25, pos := "top03_wt47d.go:75", after := #[], guard := none }) rfl (fun K hK => ?_) AllReadyH.nil)
                go_simp
                obtain ⟨wz0, hwz⟩ : ∃ v, v = wz8.alloc (Obj.cells #[] 3) := ⟨_, rfl⟩
                rw [← hwz]
                have hl : Below wz8.heap.size wz8 wz0 := by rw [hwz]; exact below_new _ _
                have hbz0 := bthen hbz8 hl
                clear hwz
                have bx := bx.carry hl
                clear hl
                refine hK.out _ _ ⟨cellb e0 hbz0, cellb e1 hbz0⟩ (fun hHeld2 => ?_)
                clear hK K hHeld1
                try simp only [Act.put, List.setIfInBounds_toArray, List.set_cons_zero, List.set_cons_succ]
                refine wpAnyH_ready (rs := [2]) (by kernel_rfl) (by simp) ?_
                refine (AllReadyH.cons (o := { dst := some 99, op := Op.call { callee := Callee.builtin Builtin.append, args := #[Operand.tmp 97, Operand.tmp 98], argTypes := #[25, 24] }, type := 25, pos := "top03_wt47d.go:75", after := #[{ on := 0, ground := Ground.data }, { on := 1, ground := Ground.data }], guard := none }) rfl (fun K hK => ?_) AllReadyH.nil)
                rw [if_pos (by rfl)]
                refine wp_append_fresh (.tmp 97) (.tmp 98) 25 24 3 3 rfl i0 (.int .i64 0) Try.underlying25 Try.underlying24 hi hz0 hz1 hz2 _ 0 rfl _ [q0, q1] rfl (hiqx.carry hbz0) (by simp [mulP]) ?_
                intro ba oa ca wz2 hia hl
                have hbz2 := bthen hbz0 hl
                have bx := bx.carry hl
                clear hl
                refine hK.out _ _ ⟨cellb e0 hbz2, cellb e1 hbz2⟩ (fun hHeld3 => ?_)
                clear hK K hHeld2
                try simp only [Act.put, List.setIfInBounds_toArray, List.set_cons_zero, List.set_cons_succ]
                refine wpAnyH_ready (rs := [4]) (by kernel_rfl) (by simp) ?_
                refine (AllReadyH.cons (o := { dst := some 101, op := Op.call { callee := Callee.value (Operand.func 8), args := #[Operand.tmp 99, Operand.tmp 100], argTypes := #[25, 33] }, type := 34, pos := "top03_wt47d.go:75", after := #[{ on := 2, ground := Ground.data }, { on := 3, ground := Ground.data }, { on := 2, ground := Ground.chain }], guard := none }) rfl (fun K hK => ?_) AllReadyH.nil)
                go_simp
                have tv := Value_any _ [q0, q1] z.1 z.2 wz2 hia (by simp [mulP])
                rw [HE10.out, ← HY10.out] at tv
                refine tv.mono ?_
                clear tv
                rintro e wz4 ⟨rfl, hl⟩
                (try go_wp2_with fail)
                have hbz4 := bthen hbz2 hl
                have bx := bx.carry hl
                have hia := hia.carry hl
                clear hl
                refine hK.out _ _ ⟨cellb e0 hbz4, cellb e1 hbz4⟩ (fun hHeld4 => ?_)
                clear hK K hHeld3
                try simp only [Act.put, List.setIfInBounds_toArray, List.set_cons_zero, List.set_cons_succ]
                refine wpAnyH_take (i := 5) (oi := { dst := some 96, op := Op.move (Operand.tmp 101), type := 34, pos := "top03_wt47d.go:75", after := #[{ on := 4, ground := Ground.data }], guard := none }) (v := ?_) rfl (by kernel_rfl) (by kernel_rfl) (by kernel_rfl) (fun _ _ _ h => h) (Or.inl ⟨by rfl, ?_⟩) (by assumption) ?_
                rotate_left
                · (intro w hSw; (try dsimp only at hSw); go_simp); (try with_reducible rfl)
                try simp only [Act.put, List.setIfInBounds_toArray, List.set_cons_zero, List.set_cons_succ]
                refine wpAnyH_take (i := 6) (oi := { dst := some 102, op := Op.extract (Operand.tmp 96) 0, type := 33, pos := "top03_wt47d.go:75", after := #[{ on := 5, ground := Ground.data }], guard := none }) (v := ?_) rfl (by kernel_rfl) (by kernel_rfl) (by kernel_rfl) (fun _ _ _ h => h) (Or.inl ⟨by rfl, ?_⟩) (by assumption) ?_
                rotate_left
                · (intro w hSw; (try dsimp only at hSw); go_simp); (try with_reducible rfl)
                try simp only [Act.put, List.setIfInBounds_toArray, List.set_cons_zero, List.set_cons_succ]
                refine wpAnyH_take (i := 7) (oi := { dst := some 103, op := Op.extract (Operand.tmp 96) 1, type := 26, pos := "top03_wt47d.go:75", after := #[{ on := 5, ground := Ground.data }, { on := 9, ground := Ground.gcOnly Departure.lateStores }], guard := none }) (v := ?_) rfl (by kernel_rfl) (by kernel_rfl) (by kernel_rfl) (fun _ _ _ h => h) (Or.inl ⟨by rfl, ?_⟩) (by assumption) ?_
                rotate_left
                · (intro w hSw; (try dsimp only at hSw); go_simp); (try with_reducible rfl)
                try simp only [Act.put, List.setIfInBounds_toArray, List.set_cons_zero, List.set_cons_succ]
                refine wpAnyH_ready (rs := [9]) (by kernel_rfl) (by simp) ?_
                refine (AllReadyH.cons (o := { dst := none, op := Op.store 33 (Operand.tmp 17) (Operand.tmp 102), type := 0, pos := "top03_wt47d.go:75", after := #[{ on := 8, ground := Ground.data }, { on := 6, ground := Ground.data }, { on := 4, ground := Ground.chain }, { on := 0, ground := Ground.phase }, { on := 1, ground := Ground.phase }, { on := 2, ground := Ground.phase }, { on := 3, ground := Ground.phase }, { on := 4, ground := Ground.phase }, { on := 5, ground := Ground.phase }, { on := 6, ground := Ground.phase }, { on := 7, ground := Ground.textOnly Departure.lateStores }, { on := 8, ground := Ground.phase }], guard := none }) rfl (fun K hK => ?_) AllReadyH.nil)
                have bx' := bx
                obtain ⟨bc0, bc1, bf0, bf1⟩ := bx'
                go_simp
                obtain ⟨wz9, hwz⟩ : ∃ v, v = (wz4.setCell ⟨B, 0, none⟩ (.int .i64 y10.1)).setCell ⟨B, 1, none⟩ (.int .i64 y10.2) := ⟨_, rfl⟩
                rw [← hwz]
                have hbz9 : Below w9.heap.size w9 wz9 := by rw [hwz]; exact (hbz4.setCell hB _).setCell hB _
                have bx := bx.set (.int .i64 y10.1) (.int .i64 y10.2)
                rw [← hwz] at bx
                clear hwz
                refine hK.out _ _ ⟨cellb e0 hbz9, cellb e1 hbz9⟩ (fun hHeld5 => ?_)
                clear hK K hHeld4
                try simp only [Act.put, List.setIfInBounds_toArray, List.set_cons_zero, List.set_cons_succ]
                refine wpAnyH_take (i := 10) (oi := { dst := some 18, op := Op.assign (Operand.tmp 103), type := 26, pos := "top03_wt47d.go:75", after := #[{ on := 7, ground := Ground.data }, { on := 9, ground := Ground.chain }, { on := 0, ground := Ground.phase }, { on := 1, ground := Ground.phase }, { on := 2, ground := Ground.phase }, { on := 3, ground := Ground.phase }, { on := 4, ground := Ground.phase }, { on := 5, ground := Ground.phase }, { on := 6, ground := Ground.phase }, { on := 7, ground := Ground.phase }, { on := 8, ground := Ground.phase }, { on := 9, ground := Ground.phase }], guard := none }) (v := ?_) rfl (by kernel_rfl) (by kernel_rfl) (by kernel_rfl) (fun _ _ _ h => h) (Or.inl ⟨by rfl, ?_⟩) (by assumption) ?_
                rotate_left
                · (intro w hSw; (try dsimp only at hSw); go_simp); (try with_reducible rfl)
                try simp only [Act.put, List.setIfInBounds_toArray, List.set_cons_zero, List.set_cons_succ]
                refine wpAnyH_done (by kernel_rfl) ?_ _
                clear hHeld5
                go_wp2_with fail
                go_meet
                exact ⟨B, rfl, bx, rfl, hbz9⟩
            case rest =>
              obtain ⟨B10, rfl, x10, rfl, hl10⟩ := hcut
              obtain ⟨w10, rfl⟩ : ∃ w10, w10 = wc := ⟨_, rfl⟩
              have hbx := bthen hbx hl10
              have himx := himx.carry hl10
              have hipx := hipx.carry hl10
              have hiqx := hiqx.carry hl10
              have zb := zb.carry hl10
              have zb' := zb
              obtain ⟨e0, e1, _, _⟩ := zb'
              have x8 := (x8.carry hl9).carry hl10
              have x9 := x9.carry hl10
              clear zb e0 e1 hl8 hl9 hl10 himx hipx hiqx
              have hv := HV.out.2
              rw [← HY8.out, ← HY9.out, ← HY10.out] at hv
              have hv8 : (y8.1 == 0 && y8.2 == 0) = ((y9.1 == 0 && y9.2 == 0) || (y10.1 == 0 && y10.2 == 0)) := hv
              clear hv
              have q8 := eqGauss y8.1 y8.2
              have q9 := eqGauss y9.1 y9.2
              have q10 := eqGauss y10.1 y10.2
              generalize (y8.1 == 0 && y8.2 == 0) = g8 at hv8 q8
              generalize (y9.1 == 0 && y9.2 == 0) = g9 at hv8 q9
              generalize (y10.1 == 0 && y10.2 == 0) = g10 at hv8 q10
              obtain ⟨a0', a1', _, _⟩ := x8
              obtain ⟨b0', b1', _, _⟩ := x9
              obtain ⟨c0', c1', _, _⟩ := x10
              cases g9
              · cases g10
                · simp only [Bool.or_false] at hv8
                  subst hv8
                  go_wp2_with fail
                  refine wp_region_held_drew (S := (fun w' => (w'.cell? ⟨B8, 0, none⟩ = some (.int .i64 y8.1) ∧ w'.cell? ⟨B8, 1, none⟩ = some (.int .i64 y8.2)) ∧ (w'.cell? ⟨B9, 0, none⟩ = some (.int .i64 y9.1) ∧ w'.cell? ⟨B9, 1, none⟩ = some (.int .i64 y9.2)) ∧ (w'.cell? ⟨B10, 0, none⟩ = some (.int .i64 y10.1) ∧ w'.cell? ⟨B10, 1, none⟩ = some (.int .i64 y10.2)))) (by kernel_rfl) ?_ (fun hHeld0 => ?_)
                  · (try dsimp only); go_keep
                  refine wpAnyH_take (i := 0) (oi := { dst := some 104, op := Op.move (Operand.tmp 14), type := 26, pos := "top03_wt47d.go:76", after := #[], guard := none }) (v := ?_) rfl (by kernel_rfl) (by kernel_rfl) (by kernel_rfl) (fun _ _ _ h => h) (Or.inl ⟨by rfl, ?_⟩) (by assumption) ?_
                  rotate_left
                  · (intro w hSw; (try dsimp only at hSw); go_simp); (try with_reducible rfl)
                  try simp only [Act.put, List.setIfInBounds_toArray, List.set_cons_zero, List.set_cons_succ]
                  refine wpAnyH_take (i := 1) (oi := { dst := some 105, op := Op.move (Operand.tmp 16), type := 26, pos := "top03_wt47d.go:76", after := #[], guard := none }) (v := ?_) rfl (by kernel_rfl) (by kernel_rfl) (by kernel_rfl) (fun _ _ _ h => h) (Or.inl ⟨by rfl, ?_⟩) (by assumption) ?_
                  rotate_left
                  · (intro w hSw; (try dsimp only at hSw); go_simp); (try with_reducible rfl)
                  try simp only [Act.put, List.setIfInBounds_toArray, List.set_cons_zero, List.set_cons_succ]
                  refine wpAnyH_take (i := 2) (oi := { dst := some 106, op := Op.binOp BinOp.add 26 (Operand.tmp 104) (Operand.tmp 105) 26, type := 26, pos := "top03_wt47d.go:76", after := #[{ on := 0, ground := Ground.data }, { on := 1, ground := Ground.data }], guard := none }) (v := ?_) rfl (by kernel_rfl) (by kernel_rfl) (by kernel_rfl) (fun _ _ _ h => h) (Or.inl ⟨by rfl, ?_⟩) (by assumption) ?_
                  rotate_left
                  · (intro w hSw; (try dsimp only at hSw); go_simp); (try with_reducible rfl)
                  try simp only [Act.put, List.setIfInBounds_toArray, List.set_cons_zero, List.set_cons_succ]
                  refine wpAnyH_take (i := 3) (oi := { dst := some 107, op := Op.move (Operand.tmp 18), type := 26, pos := "top03_wt47d.go:76", after := #[], guard := none }) (v := ?_) rfl (by kernel_rfl) (by kernel_rfl) (by kernel_rfl) (fun _ _ _ h => h) (Or.inl ⟨by rfl, ?_⟩) (by assumption) ?_
                  rotate_left
                  · (intro w hSw; (try dsimp only at hSw); go_simp); (try with_reducible rfl)
                  try simp only [Act.put, List.setIfInBounds_toArray, List.set_cons_zero, List.set_cons_succ]
                  refine wpAnyH_take (i := 4) (oi := { dst := some 108, op := Op.binOp BinOp.add 26 (Operand.tmp 106) (Operand.tmp 107) 26, type := 26, pos := "top03_wt47d.go:76", after := #[{ on := 2, ground := Ground.data }, { on := 3, ground := Ground.data }], guard := none }) (v := ?_) rfl (by kernel_rfl) (by kernel_rfl) (by kernel_rfl) (fun _ _ _ h => h) (Or.inl ⟨by rfl, ?_⟩) (by assumption) ?_
                  rotate_left
                  · (intro w hSw; (try dsimp only at hSw); go_simp); (try with_reducible rfl)
                  try simp only [Act.put, List.setIfInBounds_toArray, List.set_cons_zero, List.set_cons_succ]
                  refine wpAnyH_take (i := 5) (oi := { dst := some 109, op := Op.binOp BinOp.neq 26 (Operand.tmp 108) (Operand.const (Value.int IntKind.i64 0)) 26, type := 4, pos := "top03_wt47d.go:76", after := #[{ on := 4, ground := Ground.data }], guard := none }) (v := ?_) rfl (by kernel_rfl) (by kernel_rfl) (by kernel_rfl) (fun _ _ _ h => h) (Or.inl ⟨by rfl, ?_⟩) (by assumption) ?_
                  rotate_left
                  · (intro w hSw; (try dsimp only at hSw); go_simp); (try with_reducible rfl)
                  try simp only [Act.put, List.setIfInBounds_toArray, List.set_cons_zero, List.set_cons_succ]
                  refine wpAnyH_take (i := 6) (oi := { dst := some 110, op := Op.move (Operand.tmp 109), type := 4, pos := "top03_wt47d.go:76", after := #[{ on := 5, ground := Ground.data }], guard := none }) (v := ?_) rfl (by kernel_rfl) (by kernel_rfl) (by kernel_rfl) (fun _ _ _ h => h) (Or.inl ⟨by rfl, ?_⟩) (by assumption) ?_
                  rotate_left
                  · (intro w hSw; (try dsimp only at hSw); go_simp); (try with_reducible rfl)
                  try simp only [Act.put, List.setIfInBounds_toArray, List.set_cons_zero, List.set_cons_succ]
                  refine wpAnyH_take (i := 7) (oi := { dst := some 111, op := Op.load 33 (Operand.tmp 13), type := 33, pos := "top03_wt47d.go:76", after := #[{ on := 6, ground := Ground.guard }], guard := some (6, false) }) (v := ?_) rfl (by kernel_rfl) (by kernel_rfl) (by kernel_rfl) (fun _ _ _ h => h) (Or.inl ⟨by rfl, ?_⟩) (by assumption) ?_
                  rotate_left
                  · (intro w hSw; (try dsimp only at hSw); go_simp); (try with_reducible rfl)
                  try simp only [Act.put, List.setIfInBounds_toArray, List.set_cons_zero, List.set_cons_succ]
                  refine wpAnyH_take (i := 8) (oi := { dst := some 112, op := Op.build 33 #[], type := 33, pos := "top03_wt47d.go:76", after := #[{ on := 6, ground := Ground.guard }], guard := some (6, false) }) (v := ?_) rfl (by kernel_rfl) (by kernel_rfl) (by kernel_rfl) (fun _ _ _ h => h) (Or.inl ⟨by rfl, ?_⟩) (by assumption) ?_
                  rotate_left
                  · (intro w hSw; (try dsimp only at hSw); go_simp); (try with_reducible rfl)
                  try simp only [Act.put, List.setIfInBounds_toArray, List.set_cons_zero, List.set_cons_succ]
                  refine wpAnyH_take (i := 9) (oi := { dst := some 113, op := Op.binOp BinOp.eql 33 (Operand.tmp 111) (Operand.tmp 112) 33, type := 4, pos := "top03_wt47d.go:76", after := #[{ on := 7, ground := Ground.data }, { on := 8, ground := Ground.data }, { on := 6, ground := Ground.guard }], guard := some (6, false) }) (v := ?_) rfl (by kernel_rfl) (by kernel_rfl) (by kernel_rfl) (fun _ _ _ h => h) (Or.inl ⟨by rfl, ?_⟩) (by assumption) ?_
                  rotate_left
                  · (intro w hSw; (try dsimp only at hSw); go_simp); (try with_reducible rfl)
                  try simp only [Act.put, List.setIfInBounds_toArray, List.set_cons_zero, List.set_cons_succ]
                  refine wpAnyH_take (i := 10) (oi := { dst := some 114, op := Op.load 33 (Operand.tmp 15), type := 33, pos := "top03_wt47d.go:76", after := #[{ on := 6, ground := Ground.guard }], guard := some (6, false) }) (v := ?_) rfl (by kernel_rfl) (by kernel_rfl) (by kernel_rfl) (fun _ _ _ h => h) (Or.inl ⟨by rfl, ?_⟩) (by assumption) ?_
                  rotate_left
                  · (intro w hSw; (try dsimp only at hSw); go_simp); (try with_reducible rfl)
                  try simp only [Act.put, List.setIfInBounds_toArray, List.set_cons_zero, List.set_cons_succ]
                  refine wpAnyH_take (i := 11) (oi := { dst := some 115, op := Op.build 33 #[], type := 33, pos := "top03_wt47d.go:76", after := #[{ on := 6, ground := Ground.guard }], guard := some (6, false) }) (v := ?_) rfl (by kernel_rfl) (by kernel_rfl) (by kernel_rfl) (fun _ _ _ h => h) (Or.inl ⟨by rfl, ?_⟩) (by assumption) ?_
                  rotate_left
                  · (intro w hSw; (try dsimp only at hSw); go_simp); (try with_reducible rfl)
                  try simp only [Act.put, List.setIfInBounds_toArray, List.set_cons_zero, List.set_cons_succ]
                  refine wpAnyH_take (i := 12) (oi := { dst := some 116, op := Op.binOp BinOp.eql 33 (Operand.tmp 114) (Operand.tmp 115) 33, type := 4, pos := "top03_wt47d.go:76", after := #[{ on := 10, ground := Ground.data }, { on := 11, ground := Ground.data }, { on := 6, ground := Ground.guard }], guard := some (6, false) }) (v := ?_) rfl (by kernel_rfl) (by kernel_rfl) (by kernel_rfl) (fun _ _ _ h => h) (Or.inl ⟨by rfl, ?_⟩) (by assumption) ?_
                  rotate_left
                  · (intro w hSw; (try dsimp only at hSw); go_simp); (try with_reducible rfl)
                  try simp only [Act.put, List.setIfInBounds_toArray, List.set_cons_zero, List.set_cons_succ]
                  refine wpAnyH_take (i := 13) (oi := { dst := some 117, op := Op.move (Operand.tmp 116), type := 4, pos := "top03_wt47d.go:76", after := #[{ on := 12, ground := Ground.data }, { on := 6, ground := Ground.chain }, { on := 6, ground := Ground.guard }], guard := some (6, false) }) (v := ?_) rfl (by kernel_rfl) (by kernel_rfl) (by kernel_rfl) (fun _ _ _ h => h) (Or.inl ⟨by rfl, ?_⟩) (by assumption) ?_
                  rotate_left
                  · (intro w hSw; (try dsimp only at hSw); go_simp); (try with_reducible rfl)
                  try simp only [Act.put, List.setIfInBounds_toArray, List.set_cons_zero, List.set_cons_succ]
                  refine wpAnyH_take (i := 14) (oi := { dst := some 118, op := Op.load 33 (Operand.tmp 17), type := 33, pos := "top03_wt47d.go:76", after := #[{ on := 13, ground := Ground.guard }], guard := some (13, false) }) (v := ?_) rfl (by kernel_rfl) (by kernel_rfl) (by kernel_rfl) (fun _ _ _ h => h) (Or.inl ⟨by rfl, ?_⟩) (by assumption) ?_
                  rotate_left
                  · (intro w hSw; (try dsimp only at hSw); go_simp); (try with_reducible rfl)
                  try simp only [Act.put, List.setIfInBounds_toArray, List.set_cons_zero, List.set_cons_succ]
                  refine wpAnyH_take (i := 15) (oi := { dst := some 119, op := Op.build 33 #[], type := 33, pos := "top03_wt47d.go:76", after := #[{ on := 13, ground := Ground.guard }], guard := some (13, false) }) (v := ?_) rfl (by kernel_rfl) (by kernel_rfl) (by kernel_rfl) (fun _ _ _ h => h) (Or.inl ⟨by rfl, ?_⟩) (by assumption) ?_
                  rotate_left
                  · (intro w hSw; (try dsimp only at hSw); go_simp); (try with_reducible rfl)
                  try simp only [Act.put, List.setIfInBounds_toArray, List.set_cons_zero, List.set_cons_succ]
                  refine wpAnyH_take (i := 16) (oi := { dst := some 120, op := Op.binOp BinOp.eql 33 (Operand.tmp 118) (Operand.tmp 119) 33, type := 4, pos := "top03_wt47d.go:76", after := #[{ on := 14, ground := Ground.data }, { on := 15, ground := Ground.data }, { on := 13, ground := Ground.guard }], guard := some (13, false) }) (v := ?_) rfl (by kernel_rfl) (by kernel_rfl) (by kernel_rfl) (fun _ _ _ h => h) (Or.inl ⟨by rfl, ?_⟩) (by assumption) ?_
                  rotate_left
                  · (intro w hSw; (try dsimp only at hSw); go_simp); (try with_reducible rfl)
                  try simp only [Act.put, List.setIfInBounds_toArray, List.set_cons_zero, List.set_cons_succ]
                  refine wpAnyH_take (i := 17) (oi := { dst := some 121, op := Op.pick (Operand.tmp 117) (Operand.const (Value.bool true)) (Operand.tmp 120), type := 4, pos := "top03_wt47d.go:76", after := #[{ on := 13, ground := Ground.data }, { on := 16, ground := Ground.data }, { on := 6, ground := Ground.guard }], guard := some (6, false) }) (v := ?_) rfl (by kernel_rfl) (by kernel_rfl) (by kernel_rfl) (fun _ _ _ h => h) (Or.inl ⟨by rfl, ?_⟩) (by assumption) ?_
                  rotate_left
                  · (intro w hSw; (try dsimp only at hSw); go_simp); (try with_reducible rfl)
                  try simp only [Act.put, List.setIfInBounds_toArray, List.set_cons_zero, List.set_cons_succ]
                  refine wpAnyH_take (i := 18) (oi := { dst := some 122, op := Op.binOp BinOp.neq 4 (Operand.tmp 113) (Operand.tmp 121) 4, type := 4, pos := "top03_wt47d.go:76", after := #[{ on := 9, ground := Ground.data }, { on := 17, ground := Ground.data }, { on := 6, ground := Ground.guard }], guard := some (6, false) }) (v := ?_) rfl (by kernel_rfl) (by kernel_rfl) (by kernel_rfl) (fun _ _ _ h => h) (Or.inl ⟨by rfl, ?_⟩) (by assumption) ?_
                  rotate_left
                  · (intro w hSw; (try dsimp only at hSw); go_simp); (try with_reducible rfl)
                  try simp only [Act.put, List.setIfInBounds_toArray, List.set_cons_zero, List.set_cons_succ]
                  refine wpAnyH_take (i := 19) (oi := { dst := some 123, op := Op.pick (Operand.tmp 110) (Operand.const (Value.bool true)) (Operand.tmp 122), type := 4, pos := "top03_wt47d.go:76", after := #[{ on := 6, ground := Ground.data }, { on := 18, ground := Ground.data }], guard := none }) (v := ?_) rfl (by kernel_rfl) (by kernel_rfl) (by kernel_rfl) (fun _ _ _ h => h) (Or.inl ⟨by rfl, ?_⟩) (by assumption) ?_
                  rotate_left
                  · (intro w hSw; (try dsimp only at hSw); go_simp); (try with_reducible rfl)
                  try simp only [Act.put, List.setIfInBounds_toArray, List.set_cons_zero, List.set_cons_succ]
                  refine wpAnyH_done (by kernel_rfl) ?_ _
                  clear hHeld0
                  go_wp2
                  go_roundw
                  case rel => exact ⟨k + 1, by omega, by go_num, hbx.drew⟩
                  case measure => simp [intOf]; omega
                · simp only [Bool.false_or] at hv8
                  subst hv8
                  go_wp2_with fail
                  refine wp_region_held_drew (S := (fun w' => (w'.cell? ⟨B8, 0, none⟩ = some (.int .i64 y8.1) ∧ w'.cell? ⟨B8, 1, none⟩ = some (.int .i64 y8.2)) ∧ (w'.cell? ⟨B9, 0, none⟩ = some (.int .i64 y9.1) ∧ w'.cell? ⟨B9, 1, none⟩ = some (.int .i64 y9.2)) ∧ (w'.cell? ⟨B10, 0, none⟩ = some (.int .i64 y10.1) ∧ w'.cell? ⟨B10, 1, none⟩ = some (.int .i64 y10.2)))) (by kernel_rfl) ?_ (fun hHeld0 => ?_)
                  · (try dsimp only); go_keep
                  refine wpAnyH_take (i := 0) (oi := { dst := some 104, op := Op.move (Operand.tmp 14), type := 26, pos := "top03_wt47d.go:76", after := #[], guard := none }) (v := ?_) rfl (by kernel_rfl) (by kernel_rfl) (by kernel_rfl) (fun _ _ _ h => h) (Or.inl ⟨by rfl, ?_⟩) (by assumption) ?_
                  rotate_left
                  · (intro w hSw; (try dsimp only at hSw); go_simp); (try with_reducible rfl)
                  try simp only [Act.put, List.setIfInBounds_toArray, List.set_cons_zero, List.set_cons_succ]
                  refine wpAnyH_take (i := 1) (oi := { dst := some 105, op := Op.move (Operand.tmp 16), type := 26, pos := "top03_wt47d.go:76", after := #[], guard := none }) (v := ?_) rfl (by kernel_rfl) (by kernel_rfl) (by kernel_rfl) (fun _ _ _ h => h) (Or.inl ⟨by rfl, ?_⟩) (by assumption) ?_
                  rotate_left
                  · (intro w hSw; (try dsimp only at hSw); go_simp); (try with_reducible rfl)
                  try simp only [Act.put, List.setIfInBounds_toArray, List.set_cons_zero, List.set_cons_succ]
                  refine wpAnyH_take (i := 2) (oi := { dst := some 106, op := Op.binOp BinOp.add 26 (Operand.tmp 104) (Operand.tmp 105) 26, type := 26, pos := "top03_wt47d.go:76", after := #[{ on := 0, ground := Ground.data }, { on := 1, ground := Ground.data }], guard := none }) (v := ?_) rfl (by kernel_rfl) (by kernel_rfl) (by kernel_rfl) (fun _ _ _ h => h) (Or.inl ⟨by rfl, ?_⟩) (by assumption) ?_
                  rotate_left
                  · (intro w hSw; (try dsimp only at hSw); go_simp); (try with_reducible rfl)
                  try simp only [Act.put, List.setIfInBounds_toArray, List.set_cons_zero, List.set_cons_succ]
                  refine wpAnyH_take (i := 3) (oi := { dst := some 107, op := Op.move (Operand.tmp 18), type := 26, pos := "top03_wt47d.go:76", after := #[], guard := none }) (v := ?_) rfl (by kernel_rfl) (by kernel_rfl) (by kernel_rfl) (fun _ _ _ h => h) (Or.inl ⟨by rfl, ?_⟩) (by assumption) ?_
                  rotate_left
                  · (intro w hSw; (try dsimp only at hSw); go_simp); (try with_reducible rfl)
                  try simp only [Act.put, List.setIfInBounds_toArray, List.set_cons_zero, List.set_cons_succ]
                  refine wpAnyH_take (i := 4) (oi := { dst := some 108, op := Op.binOp BinOp.add 26 (Operand.tmp 106) (Operand.tmp 107) 26, type := 26, pos := "top03_wt47d.go:76", after := #[{ on := 2, ground := Ground.data }, { on := 3, ground := Ground.data }], guard := none }) (v := ?_) rfl (by kernel_rfl) (by kernel_rfl) (by kernel_rfl) (fun _ _ _ h => h) (Or.inl ⟨by rfl, ?_⟩) (by assumption) ?_
                  rotate_left
                  · (intro w hSw; (try dsimp only at hSw); go_simp); (try with_reducible rfl)
                  try simp only [Act.put, List.setIfInBounds_toArray, List.set_cons_zero, List.set_cons_succ]
                  refine wpAnyH_take (i := 5) (oi := { dst := some 109, op := Op.binOp BinOp.neq 26 (Operand.tmp 108) (Operand.const (Value.int IntKind.i64 0)) 26, type := 4, pos := "top03_wt47d.go:76", after := #[{ on := 4, ground := Ground.data }], guard := none }) (v := ?_) rfl (by kernel_rfl) (by kernel_rfl) (by kernel_rfl) (fun _ _ _ h => h) (Or.inl ⟨by rfl, ?_⟩) (by assumption) ?_
                  rotate_left
                  · (intro w hSw; (try dsimp only at hSw); go_simp); (try with_reducible rfl)
                  try simp only [Act.put, List.setIfInBounds_toArray, List.set_cons_zero, List.set_cons_succ]
                  refine wpAnyH_take (i := 6) (oi := { dst := some 110, op := Op.move (Operand.tmp 109), type := 4, pos := "top03_wt47d.go:76", after := #[{ on := 5, ground := Ground.data }], guard := none }) (v := ?_) rfl (by kernel_rfl) (by kernel_rfl) (by kernel_rfl) (fun _ _ _ h => h) (Or.inl ⟨by rfl, ?_⟩) (by assumption) ?_
                  rotate_left
                  · (intro w hSw; (try dsimp only at hSw); go_simp); (try with_reducible rfl)
                  try simp only [Act.put, List.setIfInBounds_toArray, List.set_cons_zero, List.set_cons_succ]
                  refine wpAnyH_take (i := 7) (oi := { dst := some 111, op := Op.load 33 (Operand.tmp 13), type := 33, pos := "top03_wt47d.go:76", after := #[{ on := 6, ground := Ground.guard }], guard := some (6, false) }) (v := ?_) rfl (by kernel_rfl) (by kernel_rfl) (by kernel_rfl) (fun _ _ _ h => h) (Or.inl ⟨by rfl, ?_⟩) (by assumption) ?_
                  rotate_left
                  · (intro w hSw; (try dsimp only at hSw); go_simp); (try with_reducible rfl)
                  try simp only [Act.put, List.setIfInBounds_toArray, List.set_cons_zero, List.set_cons_succ]
                  refine wpAnyH_take (i := 8) (oi := { dst := some 112, op := Op.build 33 #[], type := 33, pos := "top03_wt47d.go:76", after := #[{ on := 6, ground := Ground.guard }], guard := some (6, false) }) (v := ?_) rfl (by kernel_rfl) (by kernel_rfl) (by kernel_rfl) (fun _ _ _ h => h) (Or.inl ⟨by rfl, ?_⟩) (by assumption) ?_
                  rotate_left
                  · (intro w hSw; (try dsimp only at hSw); go_simp); (try with_reducible rfl)
                  try simp only [Act.put, List.setIfInBounds_toArray, List.set_cons_zero, List.set_cons_succ]
                  refine wpAnyH_take (i := 9) (oi := { dst := some 113, op := Op.binOp BinOp.eql 33 (Operand.tmp 111) (Operand.tmp 112) 33, type := 4, pos := "top03_wt47d.go:76", after := #[{ on := 7, ground := Ground.data }, { on := 8, ground := Ground.data }, { on := 6, ground := Ground.guard }], guard := some (6, false) }) (v := ?_) rfl (by kernel_rfl) (by kernel_rfl) (by kernel_rfl) (fun _ _ _ h => h) (Or.inl ⟨by rfl, ?_⟩) (by assumption) ?_
                  rotate_left
                  · (intro w hSw; (try dsimp only at hSw); go_simp); (try with_reducible rfl)
                  try simp only [Act.put, List.setIfInBounds_toArray, List.set_cons_zero, List.set_cons_succ]
                  refine wpAnyH_take (i := 10) (oi := { dst := some 114, op := Op.load 33 (Operand.tmp 15), type := 33, pos := "top03_wt47d.go:76", after := #[{ on := 6, ground := Ground.guard }], guard := some (6, false) }) (v := ?_) rfl (by kernel_rfl) (by kernel_rfl) (by kernel_rfl) (fun _ _ _ h => h) (Or.inl ⟨by rfl, ?_⟩) (by assumption) ?_
                  rotate_left
                  · (intro w hSw; (try dsimp only at hSw); go_simp); (try with_reducible rfl)
                  try simp only [Act.put, List.setIfInBounds_toArray, List.set_cons_zero, List.set_cons_succ]
                  refine wpAnyH_take (i := 11) (oi := { dst := some 115, op := Op.build 33 #[], type := 33, pos := "top03_wt47d.go:76", after := #[{ on := 6, ground := Ground.guard }], guard := some (6, false) }) (v := ?_) rfl (by kernel_rfl) (by kernel_rfl) (by kernel_rfl) (fun _ _ _ h => h) (Or.inl ⟨by rfl, ?_⟩) (by assumption) ?_
                  rotate_left
                  · (intro w hSw; (try dsimp only at hSw); go_simp); (try with_reducible rfl)
                  try simp only [Act.put, List.setIfInBounds_toArray, List.set_cons_zero, List.set_cons_succ]
                  refine wpAnyH_take (i := 12) (oi := { dst := some 116, op := Op.binOp BinOp.eql 33 (Operand.tmp 114) (Operand.tmp 115) 33, type := 4, pos := "top03_wt47d.go:76", after := #[{ on := 10, ground := Ground.data }, { on := 11, ground := Ground.data }, { on := 6, ground := Ground.guard }], guard := some (6, false) }) (v := ?_) rfl (by kernel_rfl) (by kernel_rfl) (by kernel_rfl) (fun _ _ _ h => h) (Or.inl ⟨by rfl, ?_⟩) (by assumption) ?_
                  rotate_left
                  · (intro w hSw; (try dsimp only at hSw); go_simp); (try with_reducible rfl)
                  try simp only [Act.put, List.setIfInBounds_toArray, List.set_cons_zero, List.set_cons_succ]
                  refine wpAnyH_take (i := 13) (oi := { dst := some 117, op := Op.move (Operand.tmp 116), type := 4, pos := "top03_wt47d.go:76", after := #[{ on := 12, ground := Ground.data }, { on := 6, ground := Ground.chain }, { on := 6, ground := Ground.guard }], guard := some (6, false) }) (v := ?_) rfl (by kernel_rfl) (by kernel_rfl) (by kernel_rfl) (fun _ _ _ h => h) (Or.inl ⟨by rfl, ?_⟩) (by assumption) ?_
                  rotate_left
                  · (intro w hSw; (try dsimp only at hSw); go_simp); (try with_reducible rfl)
                  try simp only [Act.put, List.setIfInBounds_toArray, List.set_cons_zero, List.set_cons_succ]
                  refine wpAnyH_take (i := 14) (oi := { dst := some 118, op := Op.load 33 (Operand.tmp 17), type := 33, pos := "top03_wt47d.go:76", after := #[{ on := 13, ground := Ground.guard }], guard := some (13, false) }) (v := ?_) rfl (by kernel_rfl) (by kernel_rfl) (by kernel_rfl) (fun _ _ _ h => h) (Or.inl ⟨by rfl, ?_⟩) (by assumption) ?_
                  rotate_left
                  · (intro w hSw; (try dsimp only at hSw); go_simp); (try with_reducible rfl)
                  try simp only [Act.put, List.setIfInBounds_toArray, List.set_cons_zero, List.set_cons_succ]
                  refine wpAnyH_take (i := 15) (oi := { dst := some 119, op := Op.build 33 #[], type := 33, pos := "top03_wt47d.go:76", after := #[{ on := 13, ground := Ground.guard }], guard := some (13, false) }) (v := ?_) rfl (by kernel_rfl) (by kernel_rfl) (by kernel_rfl) (fun _ _ _ h => h) (Or.inl ⟨by rfl, ?_⟩) (by assumption) ?_
                  rotate_left
                  · (intro w hSw; (try dsimp only at hSw); go_simp); (try with_reducible rfl)
                  try simp only [Act.put, List.setIfInBounds_toArray, List.set_cons_zero, List.set_cons_succ]
                  refine wpAnyH_take (i := 16) (oi := { dst := some 120, op := Op.binOp BinOp.eql 33 (Operand.tmp 118) (Operand.tmp 119) 33, type := 4, pos := "top03_wt47d.go:76", after := #[{ on := 14, ground := Ground.data }, { on := 15, ground := Ground.data }, { on := 13, ground := Ground.guard }], guard := some (13, false) }) (v := ?_) rfl (by kernel_rfl) (by kernel_rfl) (by kernel_rfl) (fun _ _ _ h => h) (Or.inl ⟨by rfl, ?_⟩) (by assumption) ?_
                  rotate_left
                  · (intro w hSw; (try dsimp only at hSw); go_simp); (try with_reducible rfl)
                  try simp only [Act.put, List.setIfInBounds_toArray, List.set_cons_zero, List.set_cons_succ]
                  refine wpAnyH_take (i := 17) (oi := { dst := some 121, op := Op.pick (Operand.tmp 117) (Operand.const (Value.bool true)) (Operand.tmp 120), type := 4, pos := "top03_wt47d.go:76", after := #[{ on := 13, ground := Ground.data }, { on := 16, ground := Ground.data }, { on := 6, ground := Ground.guard }], guard := some (6, false) }) (v := ?_) rfl (by kernel_rfl) (by kernel_rfl) (by kernel_rfl) (fun _ _ _ h => h) (Or.inl ⟨by rfl, ?_⟩) (by assumption) ?_
                  rotate_left
                  · (intro w hSw; (try dsimp only at hSw); go_simp); (try with_reducible rfl)
                  try simp only [Act.put, List.setIfInBounds_toArray, List.set_cons_zero, List.set_cons_succ]
                  refine wpAnyH_take (i := 18) (oi := { dst := some 122, op := Op.binOp BinOp.neq 4 (Operand.tmp 113) (Operand.tmp 121) 4, type := 4, pos := "top03_wt47d.go:76", after := #[{ on := 9, ground := Ground.data }, { on := 17, ground := Ground.data }, { on := 6, ground := Ground.guard }], guard := some (6, false) }) (v := ?_) rfl (by kernel_rfl) (by kernel_rfl) (by kernel_rfl) (fun _ _ _ h => h) (Or.inl ⟨by rfl, ?_⟩) (by assumption) ?_
                  rotate_left
                  · (intro w hSw; (try dsimp only at hSw); go_simp); (try with_reducible rfl)
                  try simp only [Act.put, List.setIfInBounds_toArray, List.set_cons_zero, List.set_cons_succ]
                  refine wpAnyH_take (i := 19) (oi := { dst := some 123, op := Op.pick (Operand.tmp 110) (Operand.const (Value.bool true)) (Operand.tmp 122), type := 4, pos := "top03_wt47d.go:76", after := #[{ on := 6, ground := Ground.data }, { on := 18, ground := Ground.data }], guard := none }) (v := ?_) rfl (by kernel_rfl) (by kernel_rfl) (by kernel_rfl) (fun _ _ _ h => h) (Or.inl ⟨by rfl, ?_⟩) (by assumption) ?_
                  rotate_left
                  · (intro w hSw; (try dsimp only at hSw); go_simp); (try with_reducible rfl)
                  try simp only [Act.put, List.setIfInBounds_toArray, List.set_cons_zero, List.set_cons_succ]
                  refine wpAnyH_done (by kernel_rfl) ?_ _
                  clear hHeld0
                  go_wp2
                  go_roundw
                  case rel => exact ⟨k + 1, by omega, by go_num, hbx.drew⟩
                  case measure => simp [intOf]; omega
              · simp only [Bool.true_or] at hv8
                subst hv8
                go_wp2_with fail
                refine wp_region_held_drew (S := (fun w' => (w'.cell? ⟨B8, 0, none⟩ = some (.int .i64 y8.1) ∧ w'.cell? ⟨B8, 1, none⟩ = some (.int .i64 y8.2)) ∧ (w'.cell? ⟨B9, 0, none⟩ = some (.int .i64 y9.1) ∧ w'.cell? ⟨B9, 1, none⟩ = some (.int .i64 y9.2)) ∧ (w'.cell? ⟨B10, 0, none⟩ = some (.int .i64 y10.1) ∧ w'.cell? ⟨B10, 1, none⟩ = some (.int .i64 y10.2)))) (by kernel_rfl) ?_ (fun hHeld0 => ?_)
                · (try dsimp only); go_keep
                refine wpAnyH_take (i := 0) (oi := { dst := some 104, op := Op.move (Operand.tmp 14), type := 26, pos := "top03_wt47d.go:76", after := #[], guard := none }) (v := ?_) rfl (by kernel_rfl) (by kernel_rfl) (by kernel_rfl) (fun _ _ _ h => h) (Or.inl ⟨by rfl, ?_⟩) (by assumption) ?_
                rotate_left
                · (intro w hSw; (try dsimp only at hSw); go_simp); (try with_reducible rfl)
                try simp only [Act.put, List.setIfInBounds_toArray, List.set_cons_zero, List.set_cons_succ]
                refine wpAnyH_take (i := 1) (oi := { dst := some 105, op := Op.move (Operand.tmp 16), type := 26, pos := "top03_wt47d.go:76", after := #[], guard := none }) (v := ?_) rfl (by kernel_rfl) (by kernel_rfl) (by kernel_rfl) (fun _ _ _ h => h) (Or.inl ⟨by rfl, ?_⟩) (by assumption) ?_
                rotate_left
                · (intro w hSw; (try dsimp only at hSw); go_simp); (try with_reducible rfl)
                try simp only [Act.put, List.setIfInBounds_toArray, List.set_cons_zero, List.set_cons_succ]
                refine wpAnyH_take (i := 2) (oi := { dst := some 106, op := Op.binOp BinOp.add 26 (Operand.tmp 104) (Operand.tmp 105) 26, type := 26, pos := "top03_wt47d.go:76", after := #[{ on := 0, ground := Ground.data }, { on := 1, ground := Ground.data }], guard := none }) (v := ?_) rfl (by kernel_rfl) (by kernel_rfl) (by kernel_rfl) (fun _ _ _ h => h) (Or.inl ⟨by rfl, ?_⟩) (by assumption) ?_
                rotate_left
                · (intro w hSw; (try dsimp only at hSw); go_simp); (try with_reducible rfl)
                try simp only [Act.put, List.setIfInBounds_toArray, List.set_cons_zero, List.set_cons_succ]
                refine wpAnyH_take (i := 3) (oi := { dst := some 107, op := Op.move (Operand.tmp 18), type := 26, pos := "top03_wt47d.go:76", after := #[], guard := none }) (v := ?_) rfl (by kernel_rfl) (by kernel_rfl) (by kernel_rfl) (fun _ _ _ h => h) (Or.inl ⟨by rfl, ?_⟩) (by assumption) ?_
                rotate_left
                · (intro w hSw; (try dsimp only at hSw); go_simp); (try with_reducible rfl)
                try simp only [Act.put, List.setIfInBounds_toArray, List.set_cons_zero, List.set_cons_succ]
                refine wpAnyH_take (i := 4) (oi := { dst := some 108, op := Op.binOp BinOp.add 26 (Operand.tmp 106) (Operand.tmp 107) 26, type := 26, pos := "top03_wt47d.go:76", after := #[{ on := 2, ground := Ground.data }, { on := 3, ground := Ground.data }], guard := none }) (v := ?_) rfl (by kernel_rfl) (by kernel_rfl) (by kernel_rfl) (fun _ _ _ h => h) (Or.inl ⟨by rfl, ?_⟩) (by assumption) ?_
                rotate_left
                · (intro w hSw; (try dsimp only at hSw); go_simp); (try with_reducible rfl)
                try simp only [Act.put, List.setIfInBounds_toArray, List.set_cons_zero, List.set_cons_succ]
                refine wpAnyH_take (i := 5) (oi := { dst := some 109, op := Op.binOp BinOp.neq 26 (Operand.tmp 108) (Operand.const (Value.int IntKind.i64 0)) 26, type := 4, pos := "top03_wt47d.go:76", after := #[{ on := 4, ground := Ground.data }], guard := none }) (v := ?_) rfl (by kernel_rfl) (by kernel_rfl) (by kernel_rfl) (fun _ _ _ h => h) (Or.inl ⟨by rfl, ?_⟩) (by assumption) ?_
                rotate_left
                · (intro w hSw; (try dsimp only at hSw); go_simp); (try with_reducible rfl)
                try simp only [Act.put, List.setIfInBounds_toArray, List.set_cons_zero, List.set_cons_succ]
                refine wpAnyH_take (i := 6) (oi := { dst := some 110, op := Op.move (Operand.tmp 109), type := 4, pos := "top03_wt47d.go:76", after := #[{ on := 5, ground := Ground.data }], guard := none }) (v := ?_) rfl (by kernel_rfl) (by kernel_rfl) (by kernel_rfl) (fun _ _ _ h => h) (Or.inl ⟨by rfl, ?_⟩) (by assumption) ?_
                rotate_left
                · (intro w hSw; (try dsimp only at hSw); go_simp); (try with_reducible rfl)
                try simp only [Act.put, List.setIfInBounds_toArray, List.set_cons_zero, List.set_cons_succ]
                refine wpAnyH_take (i := 7) (oi := { dst := some 111, op := Op.load 33 (Operand.tmp 13), type := 33, pos := "top03_wt47d.go:76", after := #[{ on := 6, ground := Ground.guard }], guard := some (6, false) }) (v := ?_) rfl (by kernel_rfl) (by kernel_rfl) (by kernel_rfl) (fun _ _ _ h => h) (Or.inl ⟨by rfl, ?_⟩) (by assumption) ?_
                rotate_left
                · (intro w hSw; (try dsimp only at hSw); go_simp); (try with_reducible rfl)
                try simp only [Act.put, List.setIfInBounds_toArray, List.set_cons_zero, List.set_cons_succ]
                refine wpAnyH_take (i := 8) (oi := { dst := some 112, op := Op.build 33 #[], type := 33, pos := "top03_wt47d.go:76", after := #[{ on := 6, ground := Ground.guard }], guard := some (6, false) }) (v := ?_) rfl (by kernel_rfl) (by kernel_rfl) (by kernel_rfl) (fun _ _ _ h => h) (Or.inl ⟨by rfl, ?_⟩) (by assumption) ?_
                rotate_left
                · (intro w hSw; (try dsimp only at hSw); go_simp); (try with_reducible rfl)
                try simp only [Act.put, List.setIfInBounds_toArray, List.set_cons_zero, List.set_cons_succ]
                refine wpAnyH_take (i := 9) (oi := { dst := some 113, op := Op.binOp BinOp.eql 33 (Operand.tmp 111) (Operand.tmp 112) 33, type := 4, pos := "top03_wt47d.go:76", after := #[{ on := 7, ground := Ground.data }, { on := 8, ground := Ground.data }, { on := 6, ground := Ground.guard }], guard := some (6, false) }) (v := ?_) rfl (by kernel_rfl) (by kernel_rfl) (by kernel_rfl) (fun _ _ _ h => h) (Or.inl ⟨by rfl, ?_⟩) (by assumption) ?_
                rotate_left
                · (intro w hSw; (try dsimp only at hSw); go_simp); (try with_reducible rfl)
                try simp only [Act.put, List.setIfInBounds_toArray, List.set_cons_zero, List.set_cons_succ]
                refine wpAnyH_take (i := 10) (oi := { dst := some 114, op := Op.load 33 (Operand.tmp 15), type := 33, pos := "top03_wt47d.go:76", after := #[{ on := 6, ground := Ground.guard }], guard := some (6, false) }) (v := ?_) rfl (by kernel_rfl) (by kernel_rfl) (by kernel_rfl) (fun _ _ _ h => h) (Or.inl ⟨by rfl, ?_⟩) (by assumption) ?_
                rotate_left
                · (intro w hSw; (try dsimp only at hSw); go_simp); (try with_reducible rfl)
                try simp only [Act.put, List.setIfInBounds_toArray, List.set_cons_zero, List.set_cons_succ]
                refine wpAnyH_take (i := 11) (oi := { dst := some 115, op := Op.build 33 #[], type := 33, pos := "top03_wt47d.go:76", after := #[{ on := 6, ground := Ground.guard }], guard := some (6, false) }) (v := ?_) rfl (by kernel_rfl) (by kernel_rfl) (by kernel_rfl) (fun _ _ _ h => h) (Or.inl ⟨by rfl, ?_⟩) (by assumption) ?_
                rotate_left
                · (intro w hSw; (try dsimp only at hSw); go_simp); (try with_reducible rfl)
                try simp only [Act.put, List.setIfInBounds_toArray, List.set_cons_zero, List.set_cons_succ]
                refine wpAnyH_take (i := 12) (oi := { dst := some 116, op := Op.binOp BinOp.eql 33 (Operand.tmp 114) (Operand.tmp 115) 33, type := 4, pos := "top03_wt47d.go:76", after := #[{ on := 10, ground := Ground.data }, { on := 11, ground := Ground.data }, { on := 6, ground := Ground.guard }], guard := some (6, false) }) (v := ?_) rfl (by kernel_rfl) (by kernel_rfl) (by kernel_rfl) (fun _ _ _ h => h) (Or.inl ⟨by rfl, ?_⟩) (by assumption) ?_
                rotate_left
                · (intro w hSw; (try dsimp only at hSw); go_simp); (try with_reducible rfl)
                try simp only [Act.put, List.setIfInBounds_toArray, List.set_cons_zero, List.set_cons_succ]
                refine wpAnyH_take (i := 13) (oi := { dst := some 117, op := Op.move (Operand.tmp 116), type := 4, pos := "top03_wt47d.go:76", after := #[{ on := 12, ground := Ground.data }, { on := 6, ground := Ground.chain }, { on := 6, ground := Ground.guard }], guard := some (6, false) }) (v := ?_) rfl (by kernel_rfl) (by kernel_rfl) (by kernel_rfl) (fun _ _ _ h => h) (Or.inl ⟨by rfl, ?_⟩) (by assumption) ?_
                rotate_left
                · (intro w hSw; (try dsimp only at hSw); go_simp); (try with_reducible rfl)
                try simp only [Act.put, List.setIfInBounds_toArray, List.set_cons_zero, List.set_cons_succ]
                refine wpAnyH_take (i := 14) (oi := { dst := some 118, op := Op.load 33 (Operand.tmp 17), type := 33, pos := "top03_wt47d.go:76", after := #[{ on := 13, ground := Ground.guard }], guard := some (13, false) }) (v := undef) rfl (by kernel_rfl) (by kernel_rfl) (by kernel_rfl) (fun _ _ _ h => h) (Or.inr ⟨by rfl, rfl⟩) (by assumption) ?_
                try simp only [Act.put, List.setIfInBounds_toArray, List.set_cons_zero, List.set_cons_succ]
                refine wpAnyH_take (i := 15) (oi := { dst := some 119, op := Op.build 33 #[], type := 33, pos := "top03_wt47d.go:76", after := #[{ on := 13, ground := Ground.guard }], guard := some (13, false) }) (v := undef) rfl (by kernel_rfl) (by kernel_rfl) (by kernel_rfl) (fun _ _ _ h => h) (Or.inr ⟨by rfl, rfl⟩) (by assumption) ?_
                try simp only [Act.put, List.setIfInBounds_toArray, List.set_cons_zero, List.set_cons_succ]
                refine wpAnyH_take (i := 16) (oi := { dst := some 120, op := Op.binOp BinOp.eql 33 (Operand.tmp 118) (Operand.tmp 119) 33, type := 4, pos := "top03_wt47d.go:76", after := #[{ on := 14, ground := Ground.data }, { on := 15, ground := Ground.data }, { on := 13, ground := Ground.guard }], guard := some (13, false) }) (v := undef) rfl (by kernel_rfl) (by kernel_rfl) (by kernel_rfl) (fun _ _ _ h => h) (Or.inr ⟨by rfl, rfl⟩) (by assumption) ?_
                try simp only [Act.put, List.setIfInBounds_toArray, List.set_cons_zero, List.set_cons_succ]
                refine wpAnyH_take (i := 17) (oi := { dst := some 121, op := Op.pick (Operand.tmp 117) (Operand.const (Value.bool true)) (Operand.tmp 120), type := 4, pos := "top03_wt47d.go:76", after := #[{ on := 13, ground := Ground.data }, { on := 16, ground := Ground.data }, { on := 6, ground := Ground.guard }], guard := some (6, false) }) (v := ?_) rfl (by kernel_rfl) (by kernel_rfl) (by kernel_rfl) (fun _ _ _ h => h) (Or.inl ⟨by rfl, ?_⟩) (by assumption) ?_
                rotate_left
                · (intro w hSw; (try dsimp only at hSw); go_simp); (try with_reducible rfl)
                try simp only [Act.put, List.setIfInBounds_toArray, List.set_cons_zero, List.set_cons_succ]
                refine wpAnyH_take (i := 18) (oi := { dst := some 122, op := Op.binOp BinOp.neq 4 (Operand.tmp 113) (Operand.tmp 121) 4, type := 4, pos := "top03_wt47d.go:76", after := #[{ on := 9, ground := Ground.data }, { on := 17, ground := Ground.data }, { on := 6, ground := Ground.guard }], guard := some (6, false) }) (v := ?_) rfl (by kernel_rfl) (by kernel_rfl) (by kernel_rfl) (fun _ _ _ h => h) (Or.inl ⟨by rfl, ?_⟩) (by assumption) ?_
                rotate_left
                · (intro w hSw; (try dsimp only at hSw); go_simp); (try with_reducible rfl)
                try simp only [Act.put, List.setIfInBounds_toArray, List.set_cons_zero, List.set_cons_succ]
                refine wpAnyH_take (i := 19) (oi := { dst := some 123, op := Op.pick (Operand.tmp 110) (Operand.const (Value.bool true)) (Operand.tmp 122), type := 4, pos := "top03_wt47d.go:76", after := #[{ on := 6, ground := Ground.data }, { on := 18, ground := Ground.data }], guard := none }) (v := ?_) rfl (by kernel_rfl) (by kernel_rfl) (by kernel_rfl) (fun _ _ _ h => h) (Or.inl ⟨by rfl, ?_⟩) (by assumption) ?_
                rotate_left
                · (intro w hSw; (try dsimp only at hSw); go_simp); (try with_reducible rfl)
                try simp only [Act.put, List.setIfInBounds_toArray, List.set_cons_zero, List.set_cons_succ]
                refine wpAnyH_done (by kernel_rfl) ?_ _
                clear hHeld0
                go_wp2
                go_roundw
                case rel => exact ⟨k + 1, by omega, by go_num, hbx.drew⟩
                case measure => simp [intOf]; omega
      · obtain rfl : k = 4 := by omega
        have hipr := hip.carry hbr
        have hiqr := hiq.carry hbr
        have himr := him.carry hbr
        have hbw := bthen hbwq hbr
        obtain ⟨_, _, _, he, hpc⟩ := hipr.head (by simp)
        cases he
        have cp0 := hpc 0 (by simp)
        have cp1 := hpc 1 (by simp)
        rw [Nat.add_zero] at cp0
        simp only [List.getElem?_cons_zero, List.getElem?_cons_succ, Option.getD_some] at cp0 cp1
        clear hip hiq him hbr hbwq hQ HFV hpc
        have hr := tmod_bd vv 21 (by decide)
        have hr : -20 ≤ vv.tmod 21 ∧ vv.tmod 21 ≤ 20 := by simpa using hr
        go_upto_region 16 with fail
        generalize vv.tmod 21 = r at hr ⊢
        have hcb : (r * p1).natAbs ≤ 80 := by rw [Int.natAbs_mul]; exact Nat.le_trans (Nat.mul_le_mul (show r.natAbs ≤ 20 by omega) (show p1.natAbs ≤ 4 by omega)) (by decide)
        have hdb : (-p0 * r).natAbs ≤ 80 := by rw [Int.natAbs_mul]; exact Nat.le_trans (Nat.mul_le_mul (show (-p0).natAbs ≤ 4 by omega) (show r.natAbs ≤ 20 by omega)) (by decide)
        have hzb : (-p0 * q1).natAbs ≤ 16 := by rw [Int.natAbs_mul]; exact Nat.le_trans (Nat.mul_le_mul (show (-p0).natAbs ≤ 4 by omega) (show q1.natAbs ≤ 4 by omega)) (by decide)
        have hm0 : (p0 * q0).natAbs ≤ 16 := by rw [Int.natAbs_mul]; exact Nat.le_trans (Nat.mul_le_mul (show p0.natAbs ≤ 4 by omega) (show q0.natAbs ≤ 4 by omega)) (by decide)
        have hm2 : (p1 * q1).natAbs ≤ 16 := by rw [Int.natAbs_mul]; exact Nat.le_trans (Nat.mul_le_mul (show p1.natAbs ≤ 4 by omega) (show q1.natAbs ≤ 4 by omega)) (by decide)
        have hm1 : (p0 * q1 + p1 * q0).natAbs ≤ 32 := by
          have a1 : (p0 * q1).natAbs ≤ 16 := by rw [Int.natAbs_mul]; exact Nat.le_trans (Nat.mul_le_mul (show p0.natAbs ≤ 4 by omega) (show q1.natAbs ≤ 4 by omega)) (by decide)
          have a2 : (p1 * q0).natAbs ≤ 16 := by rw [Int.natAbs_mul]; exact Nat.le_trans (Nat.mul_le_mul (show p1.natAbs ≤ 4 by omega) (show q0.natAbs ≤ 4 by omega)) (by decide)
          omega
        have hfp : checkPolyE [p0, p1] = 0 := value_poly (fact_value hp0 hp1 hq0 hq1)
        have hS := steps1 p0 p1 (r * p1) (by omega) hcb 6 (by omega)
        have hT := steps2 (p0 * q0) (p0 * q1 + p1 * q0) (p1 * q1) (r * p1) (-p0 * r) (-p0 * q1) hm0 hm1 hm2 hcb hzb (by grind) hdb (by grind) 6 (by omega)
        have sS := stepped_of (p := [p0, p1]) (l := [r * p1]) (n := 1) (st := 5) hfp rfl (by omega) rfl (by intro x hx; simp at hx; subst hx; omega) (by omega) hS
        have sT := stepped_of (p := mulP p0 p1 q0 q1) (l := [r * p1, -p0 * r]) (n := 2) (st := 4) HFC.out rfl (by omega) rfl (by intro x hx; simp at hx; rcases hx with rfl | rfl <;> omega) (by omega) hT
        clear hS hT hfp
        have ec : wrap64 (r * p1) = r * p1 := w64 _ (by omega)
        have ed : wrap64 (-p0 * r) = -p0 * r := w64 _ (by omega)
        rw [ec, ed]
        clear ec ed
        have hc0 := hcb
        generalize hcc : r * p1 = c at sS sT hcb ⊢
        generalize -p0 * r = d at sS sT hdb ⊢
        have hdzb := hcb
        clear hcc hc0
        go_wp2_with (at_builtin; refine wpList_append_fresh rfl (.tmp 141) (.tmp 142) 25 24 3 3 rfl i0 (.int .i64 0) Try.underlying25 Try.underlying24 hi hz0 hz1 hz2 wr.heap.size 0 rfl _ [p0, p1] rfl (hipr.alloc _) (by simp [mulP]) ?_; intro b5 o5 c5 w5 hi5 hl5; have hb5 := bthen (below_new _ (.cells #[] 3)) hl5)
        have hk5 := bthen hb5 (below_new w5 (.cells #[.int .i64 c] 3))
        have ts := Stepped_any _ _ [p0, p1] [c] 5 _ (hi5.alloc (.cells #[.int .i64 c] 3)) (Ints.new w5 3 [c] 1 w5.heap.size _ rfl rfl rfl) (by simp) (by simp)
        rw [show steppedE [p0, p1] [c] 5 = 0 from sS.1, show steppedR [p0, p1] [c] 5 = geo c (-p0) 6 from sS.2] at ts
        refine ts.mono ?_
        clear ts hi5 hl5
        rintro e w6 ⟨⟨u, rfl, hs⟩, h6⟩
        have hk6 := bthen hk5 h6
        clear h6 hk5 hb5
        have hs' := hs
        obtain ⟨bs, os, cs, rfl, _⟩ := hs'.head (by rw [geo_length]; omega)
        clear hs'
        have him6 := himr.carry hk6
        simp only [geo_length] at hs ⊢
        go_wp2_with (at_builtin; refine wpList_append_fresh rfl (.tmp 150) (.tmp 151) 25 25 3 3 rfl i0 (.int .i64 0) Try.underlying25 Try.underlying25 hi hz0 hz1 hz2 w6.heap.size 0 rfl _ (mulP p0 p1 q0 q1) rfl (him6.alloc _) (by simp [mulP]) ?_; intro b7 o7 c7 w7 hi7 hl7; have hb7 := bthen (below_new _ (.cells #[] 3)) hl7)
        have hk7 := bthen hb7 (below_new w7 (.cells #[.int .i64 c, .int .i64 d] 3))
        have ts := Stepped_any _ _ (mulP p0 p1 q0 q1) [c, d] 4 _ (hi7.alloc (.cells #[.int .i64 c, .int .i64 d] 3)) (Ints.new w7 3 [c, d] 2 w7.heap.size _ rfl rfl rfl) (by simp [mulP]) (by simp)
        rw [show steppedE (mulP p0 p1 q0 q1) [c, d] 4 = 0 from sT.1, show steppedR (mulP p0 p1 q0 q1) [c, d] 4 = geo c (-p0 * q1) 6 from sT.2] at ts
        refine ts.mono ?_
        clear ts hi7 hl7
        rintro e w8 ⟨⟨u, rfl, ht⟩, h8⟩
        have hk8 := bthen hk7 h8
        clear h8 hk7 hb7
        have ht' := ht
        obtain ⟨bt, ot, ct, rfl, _⟩ := ht'.head (by rw [geo_length]; omega)
        clear ht'
        have hs8 := hs.carry hk8
        have him8 := him6.carry hk8
        have hip8 := hipr.carry (bthen hk6 hk8)
        have hbw8 := bthen hbw (bthen hk6 hk8)
        clear hs him6 himr hipr hbw hk6 hk8 sS sT
        simp only [geo_length] at ht ⊢
        obtain ⟨_, _, _, he, hsc⟩ := hs8.head (by rw [geo_length]; omega)
        cases he
        obtain ⟨_, _, _, he, htc⟩ := ht.head (by rw [geo_length]; omega)
        cases he
        obtain ⟨_, _, _, he, hpc⟩ := hip8.head (by simp)
        cases he
        obtain ⟨_, _, _, he, hmc⟩ := him8.head (by simp [mulP])
        cases he
        have cp1' := hpc 1 (by simp)
        have cm2' := hmc 2 (by simp [mulP])
        simp only [List.getElem?_cons_zero, List.getElem?_cons_succ, Option.getD_some, mulP] at cp1' cm2'
        rw [geo_length] at hsc htc
        clear hpc hmc hs8 ht him8 hip8 hiqr hip hiq
        have hp1b : p1.natAbs ≤ 4 := by omega
        have hp0b : (-p0).natAbs ≤ 4 := by omega
        go_wp2_with fail
        go_loopw [25, 26, 177] (fun va vb i wr => ∃ k : Nat, k ≤ 6 ∧ i = .int .i64 k ∧ va = .int .i64 (p1 ^ k) ∧ vb = .int .i64 ((p1 * q1) ^ k) ∧ Below w8.heap.size w8 wr) (fun _ _ i _ => 6 - (intOf i).toNat)
        case atStart => exact ⟨0, by omega, rfl, by rw [Int.pow_zero], by rw [Int.pow_zero], Below.refl _ _⟩
        case round =>
          obtain ⟨k, hk, rfl, rfl, rfl, hbr⟩ := hrel
          by_cases hlt : k < 6
          · have cs1 := hsc k hlt
            have ct1 := htc k hlt
            rw [geo_get _ _ _ _ hlt] at cs1 ct1
            have cs2 := cellb cs1 hbr
            have ct2 := cellb ct1 hbr
            have cp2 := cellb cp1' hbr
            have cm2 := cellb cm2' hbr
            clear cs1 ct1 hsc htc cp1' cm2'
            have hX := geo_bd c (-p0) 80 4 hcb hp0b k
            have hY := geo_bd c (-p0 * q1) 80 16 hdzb hzb k
            have hA : (p1 ^ k).natAbs ≤ 4 ^ k := by rw [Int.natAbs_pow]; exact Nat.pow_le_pow_left hp1b k
            have hBB : ((p1 * q1) ^ k).natAbs ≤ 16 ^ k := by rw [Int.natAbs_pow]; exact Nat.pow_le_pow_left hm2 k
            have h4k : 4 ^ k ≤ 4 ^ 5 := Nat.pow_le_pow_right (by omega) (by omega)
            have h16k : 16 ^ k ≤ 16 ^ 5 := Nat.pow_le_pow_right (by omega) (by omega)
            have hXB : (c * (-p0) ^ k * (p1 * q1) ^ k).natAbs ≤ 80 * 4 ^ 5 * 16 ^ 5 := by
              rw [Int.natAbs_mul]
              exact Nat.mul_le_mul (Nat.le_trans hX (Nat.mul_le_mul_left _ h4k)) (Nat.le_trans hBB h16k)
            have hE := wash_eq c (-p0) p1 q1 k
            have eA : p1 ^ k * p1 = p1 ^ (k + 1) := (Int.pow_succ ..).symm
            have eB : (p1 * q1) ^ k * (p1 * q1) = (p1 * q1) ^ (k + 1) := (Int.pow_succ ..).symm
            have bA : (p1 ^ k * p1).natAbs ≤ 4 ^ 5 * 4 := by rw [Int.natAbs_mul]; exact Nat.mul_le_mul (Nat.le_trans hA h4k) hp1b
            have bB : ((p1 * q1) ^ k * (p1 * q1)).natAbs ≤ 16 ^ 5 * 16 := by rw [Int.natAbs_mul]; exact Nat.mul_le_mul (Nat.le_trans hBB h16k) hm2
            have wV : IntKind.i64.wrap (c * (-p0) ^ k * (p1 * q1) ^ k) = c * (-p0) ^ k * (p1 * q1) ^ k := IntWalk.i64_in _ (by omega)
            have wA : IntKind.i64.wrap (p1 ^ k * p1) = p1 ^ (k + 1) := by rw [← eA]; exact IntWalk.i64_in _ (by omega)
            have wB : IntKind.i64.wrap ((p1 * q1) ^ k * (p1 * q1)) = (p1 * q1) ^ (k + 1) := by rw [← eB]; exact IntWalk.i64_in _ (by omega)
            have wV2 : IntKind.i64.wrap (c * (-p0 * q1) ^ k * p1 ^ k) = c * (-p0) ^ k * (p1 * q1) ^ k := by rw [← hE]; exact wV
            clear hX hY hA hBB h4k h16k hXB hE eA eB bA bB
            generalize c * (-p0) ^ k = X at wV wV2 cs2
            generalize c * (-p0 * q1) ^ k = Y at wV2 ct2
            obtain ⟨A1, hA1⟩ : ∃ A1, A1 = p1 ^ (k + 1) := ⟨_, rfl⟩
            rw [← hA1] at wA
            obtain ⟨B1, hB1⟩ : ∃ B1, B1 = (p1 * q1) ^ (k + 1) := ⟨_, rfl⟩
            rw [← hB1] at wB
            have HA1 := Lib.hid hA1
            have HB1 := Lib.hid hB1
            clear hA1 hB1
            generalize p1 ^ k = A at wA wV2 ⊢
            generalize (p1 * q1) ^ k = B at wB wV wV2 ⊢
            obtain ⟨M, hM⟩ : ∃ M, M = p1 * q1 := ⟨_, rfl⟩
            rw [← hM] at wB cm2
            clear hM
            obtain ⟨V, hV⟩ : ∃ V, V = X * B := ⟨_, rfl⟩
            have wV' : IntKind.i64.wrap (X * B) = V := wV.trans hV.symm
            rw [← hV] at wV2
            clear hV wV
            have hk0 : (0 : Int) ≤ (k : Int) := by omega
            have hk6 : (k : Int) < 6 := by omega
            go_wp2_with fail
            refine wp_region_held_drew (S := (fun w' => w'.cell? ⟨bs, os + k, none⟩ = some (.int .i64 X) ∧ w'.cell? ⟨bt, ot + k, none⟩ = some (.int .i64 Y))) (by kernel_rfl) ?_ (fun hHeld0 => ?_)
            · (try dsimp only); go_keep
            refine wpAnyH_take (i := 0) (oi := { dst := some 180, op := Op.move (Operand.tmp 21), type := 24, pos := "top03_wt47d.go:91", after := #[], guard := none }) (v := ?_) rfl (by kernel_rfl) (by kernel_rfl) (by kernel_rfl) (fun _ _ _ h => h) (Or.inl ⟨by rfl, ?_⟩) (by assumption) ?_
            rotate_left
            · (intro w hSw; (try dsimp only at hSw); go_simp); (try with_reducible rfl)
            try simp only [Act.put, List.setIfInBounds_toArray, List.set_cons_zero, List.set_cons_succ]
            refine wpAnyH_take (i := 1) (oi := { dst := some 181, op := Op.move (Operand.tmp 27), type := 3, pos := "top03_wt47d.go:91", after := #[], guard := none }) (v := ?_) rfl (by kernel_rfl) (by kernel_rfl) (by kernel_rfl) (fun _ _ _ h => h) (Or.inl ⟨by rfl, ?_⟩) (by assumption) ?_
            rotate_left
            · (intro w hSw; (try dsimp only at hSw); go_simp); (try with_reducible rfl)
            try simp only [Act.put, List.setIfInBounds_toArray, List.set_cons_zero, List.set_cons_succ]
            refine wpAnyH_take (i := 2) (oi := { dst := some 182, op := Op.indexAddr 24 (Operand.tmp 180) (Operand.tmp 181), type := 0, pos := "top03_wt47d.go:91", after := #[{ on := 0, ground := Ground.data }, { on := 1, ground := Ground.data }], guard := none }) (v := ?_) rfl (by kernel_rfl) (by kernel_rfl) (by kernel_rfl) (fun _ _ _ h => h) (Or.inl ⟨by rfl, ?_⟩) (by assumption) ?_
            rotate_left
            · (intro w hSw; (try dsimp only at hSw); go_simp); (try with_reducible rfl)
            try simp only [Act.put, List.setIfInBounds_toArray, List.set_cons_zero, List.set_cons_succ]
            refine wpAnyH_take (i := 3) (oi := { dst := some 183, op := Op.load 3 (Operand.tmp 182), type := 3, pos := "top03_wt47d.go:91", after := #[{ on := 2, ground := Ground.data }], guard := none }) (v := ?_) rfl (by kernel_rfl) (by kernel_rfl) (by kernel_rfl) (fun _ _ _ h => h) (Or.inl ⟨by rfl, ?_⟩) (by assumption) ?_
            rotate_left
            · (intro w hSw; (try dsimp only at hSw); go_simp); (try with_reducible rfl)
            try simp only [Act.put, List.setIfInBounds_toArray, List.set_cons_zero, List.set_cons_succ]
            refine wpAnyH_take (i := 4) (oi := { dst := some 184, op := Op.move (Operand.tmp 26), type := 3, pos := "top03_wt47d.go:91", after := #[], guard := none }) (v := ?_) rfl (by kernel_rfl) (by kernel_rfl) (by kernel_rfl) (fun _ _ _ h => h) (Or.inl ⟨by rfl, ?_⟩) (by assumption) ?_
            rotate_left
            · (intro w hSw; (try dsimp only at hSw); go_simp); (try with_reducible rfl)
            try simp only [Act.put, List.setIfInBounds_toArray, List.set_cons_zero, List.set_cons_succ]
            refine wpAnyH_take (i := 5) (oi := { dst := some 185, op := Op.binOp BinOp.mul 3 (Operand.tmp 183) (Operand.tmp 184) 3, type := 3, pos := "top03_wt47d.go:91", after := #[{ on := 3, ground := Ground.data }, { on := 4, ground := Ground.data }], guard := none }) (v := ?_) rfl (by kernel_rfl) (by kernel_rfl) (by kernel_rfl) (fun _ _ _ h => h) (Or.inl ⟨by rfl, ?_⟩) (by assumption) ?_
            rotate_left
            · (intro w hSw; (try dsimp only at hSw); go_simp); (try with_reducible rfl)
            try simp only [Act.put, List.setIfInBounds_toArray, List.set_cons_zero, List.set_cons_succ]
            refine wpAnyH_take (i := 6) (oi := { dst := some 186, op := Op.move (Operand.tmp 23), type := 24, pos := "top03_wt47d.go:91", after := #[], guard := none }) (v := ?_) rfl (by kernel_rfl) (by kernel_rfl) (by kernel_rfl) (fun _ _ _ h => h) (Or.inl ⟨by rfl, ?_⟩) (by assumption) ?_
            rotate_left
            · (intro w hSw; (try dsimp only at hSw); go_simp); (try with_reducible rfl)
            try simp only [Act.put, List.setIfInBounds_toArray, List.set_cons_zero, List.set_cons_succ]
            refine wpAnyH_take (i := 7) (oi := { dst := some 187, op := Op.move (Operand.tmp 27), type := 3, pos := "top03_wt47d.go:91", after := #[], guard := none }) (v := ?_) rfl (by kernel_rfl) (by kernel_rfl) (by kernel_rfl) (fun _ _ _ h => h) (Or.inl ⟨by rfl, ?_⟩) (by assumption) ?_
            rotate_left
            · (intro w hSw; (try dsimp only at hSw); go_simp); (try with_reducible rfl)
            try simp only [Act.put, List.setIfInBounds_toArray, List.set_cons_zero, List.set_cons_succ]
            refine wpAnyH_take (i := 8) (oi := { dst := some 188, op := Op.indexAddr 24 (Operand.tmp 186) (Operand.tmp 187), type := 0, pos := "top03_wt47d.go:91", after := #[{ on := 6, ground := Ground.data }, { on := 7, ground := Ground.data }], guard := none }) (v := ?_) rfl (by kernel_rfl) (by kernel_rfl) (by kernel_rfl) (fun _ _ _ h => h) (Or.inl ⟨by rfl, ?_⟩) (by assumption) ?_
            rotate_left
            · (intro w hSw; (try dsimp only at hSw); go_simp); (try with_reducible rfl)
            try simp only [Act.put, List.setIfInBounds_toArray, List.set_cons_zero, List.set_cons_succ]
            refine wpAnyH_take (i := 9) (oi := { dst := some 189, op := Op.load 3 (Operand.tmp 188), type := 3, pos := "top03_wt47d.go:91", after := #[{ on := 8, ground := Ground.data }], guard := none }) (v := ?_) rfl (by kernel_rfl) (by kernel_rfl) (by kernel_rfl) (fun _ _ _ h => h) (Or.inl ⟨by rfl, ?_⟩) (by assumption) ?_
            rotate_left
            · (intro w hSw; (try dsimp only at hSw); go_simp); (try with_reducible rfl)
            try simp only [Act.put, List.setIfInBounds_toArray, List.set_cons_zero, List.set_cons_succ]
            refine wpAnyH_take (i := 10) (oi := { dst := some 190, op := Op.move (Operand.tmp 25), type := 3, pos := "top03_wt47d.go:91", after := #[], guard := none }) (v := ?_) rfl (by kernel_rfl) (by kernel_rfl) (by kernel_rfl) (fun _ _ _ h => h) (Or.inl ⟨by rfl, ?_⟩) (by assumption) ?_
            rotate_left
            · (intro w hSw; (try dsimp only at hSw); go_simp); (try with_reducible rfl)
            try simp only [Act.put, List.setIfInBounds_toArray, List.set_cons_zero, List.set_cons_succ]
            refine wpAnyH_take (i := 11) (oi := { dst := some 191, op := Op.binOp BinOp.mul 3 (Operand.tmp 189) (Operand.tmp 190) 3, type := 3, pos := "top03_wt47d.go:91", after := #[{ on := 9, ground := Ground.data }, { on := 10, ground := Ground.data }], guard := none }) (v := ?_) rfl (by kernel_rfl) (by kernel_rfl) (by kernel_rfl) (fun _ _ _ h => h) (Or.inl ⟨by rfl, ?_⟩) (by assumption) ?_
            rotate_left
            · (intro w hSw; (try dsimp only at hSw); go_simp); (try with_reducible rfl)
            try simp only [Act.put, List.setIfInBounds_toArray, List.set_cons_zero, List.set_cons_succ]
            refine wpAnyH_take (i := 12) (oi := { dst := some 192, op := Op.binOp BinOp.neq 3 (Operand.tmp 185) (Operand.tmp 191) 3, type := 4, pos := "top03_wt47d.go:91", after := #[{ on := 5, ground := Ground.data }, { on := 11, ground := Ground.data }], guard := none }) (v := ?_) rfl (by kernel_rfl) (by kernel_rfl) (by kernel_rfl) (fun _ _ _ h => h) (Or.inl ⟨by rfl, ?_⟩) (by assumption) ?_
            rotate_left
            · (intro w hSw; (try dsimp only at hSw); go_simp); (try with_reducible rfl)
            try simp only [Act.put, List.setIfInBounds_toArray, List.set_cons_zero, List.set_cons_succ]
            refine wpAnyH_done (by kernel_rfl) ?_ _
            clear hHeld0
            have hbr' := hbr.drew
            obtain ⟨wy, hwy⟩ : ∃ wy, wy = wr.drew := ⟨_, rfl⟩
            have cp3 : wy.cell? ⟨bp, op + 1, none⟩ = some (.int .i64 p1) := by rw [hwy]; exact cp2
            have cm3 : wy.cell? ⟨bm, om + 2, none⟩ = some (.int .i64 M) := by rw [hwy]; exact cm2
            rw [← hwy] at hbr' ⊢
            clear hwy cp2 cm2 cs2 ct2
            go_wp2_with fail
            refine wp_region_held_drew (S := (fun w' => w'.cell? ⟨bp, op + 1, none⟩ = some (.int .i64 p1) ∧ w'.cell? ⟨bm, om + 2, none⟩ = some (.int .i64 M))) (by kernel_rfl) ?_ (fun hHeld0 => ?_)
            · (try dsimp only); go_keep
            refine wpAnyH_take (i := 0) (oi := { dst := some 193, op := Op.move (Operand.tmp 25), type := 3, pos := "top03_wt47d.go:94", after := #[], guard := none }) (v := ?_) rfl (by kernel_rfl) (by kernel_rfl) (by kernel_rfl) (fun _ _ _ h => h) (Or.inl ⟨by rfl, ?_⟩) (by assumption) ?_
            rotate_left
            · (intro w hSw; (try dsimp only at hSw); go_simp); (try with_reducible rfl)
            try simp only [Act.put, List.setIfInBounds_toArray, List.set_cons_zero, List.set_cons_succ]
            refine wpAnyH_take (i := 1) (oi := { dst := some 194, op := Op.move (Operand.tmp 7), type := 24, pos := "top03_wt47d.go:94", after := #[], guard := none }) (v := ?_) rfl (by kernel_rfl) (by kernel_rfl) (by kernel_rfl) (fun _ _ _ h => h) (Or.inl ⟨by rfl, ?_⟩) (by assumption) ?_
            rotate_left
            · (intro w hSw; (try dsimp only at hSw); go_simp); (try with_reducible rfl)
            try simp only [Act.put, List.setIfInBounds_toArray, List.set_cons_zero, List.set_cons_succ]
            refine wpAnyH_take (i := 2) (oi := { dst := some 195, op := Op.indexAddr 24 (Operand.tmp 194) (Operand.const (Value.int IntKind.i64 1)), type := 0, pos := "top03_wt47d.go:94", after := #[{ on := 1, ground := Ground.data }], guard := none }) (v := ?_) rfl (by kernel_rfl) (by kernel_rfl) (by kernel_rfl) (fun _ _ _ h => h) (Or.inl ⟨by rfl, ?_⟩) (by assumption) ?_
            rotate_left
            · (intro w hSw; (try dsimp only at hSw); go_simp); (try with_reducible rfl)
            try simp only [Act.put, List.setIfInBounds_toArray, List.set_cons_zero, List.set_cons_succ]
            refine wpAnyH_take (i := 3) (oi := { dst := some 196, op := Op.load 3 (Operand.tmp 195), type := 3, pos := "top03_wt47d.go:94", after := #[{ on := 2, ground := Ground.data }], guard := none }) (v := ?_) rfl (by kernel_rfl) (by kernel_rfl) (by kernel_rfl) (fun _ _ _ h => h) (Or.inl ⟨by rfl, ?_⟩) (by assumption) ?_
            rotate_left
            · (intro w hSw; (try dsimp only at hSw); go_simp); (try with_reducible rfl)
            try simp only [Act.put, List.setIfInBounds_toArray, List.set_cons_zero, List.set_cons_succ]
            refine wpAnyH_take (i := 4) (oi := { dst := some 197, op := Op.binOp BinOp.mul 3 (Operand.tmp 193) (Operand.tmp 196) 3, type := 3, pos := "top03_wt47d.go:94", after := #[{ on := 0, ground := Ground.data }, { on := 3, ground := Ground.data }], guard := none }) (v := ?_) rfl (by kernel_rfl) (by kernel_rfl) (by kernel_rfl) (fun _ _ _ h => h) (Or.inl ⟨by rfl, ?_⟩) (by assumption) ?_
            rotate_left
            · (intro w hSw; (try dsimp only at hSw); go_simp); (try with_reducible rfl)
            try simp only [Act.put, List.setIfInBounds_toArray, List.set_cons_zero, List.set_cons_succ]
            refine wpAnyH_take (i := 5) (oi := { dst := some 198, op := Op.move (Operand.tmp 26), type := 3, pos := "top03_wt47d.go:94", after := #[{ on := 10, ground := Ground.gcOnly Departure.lateStores }], guard := none }) (v := ?_) rfl (by kernel_rfl) (by kernel_rfl) (by kernel_rfl) (fun _ _ _ h => h) (Or.inl ⟨by rfl, ?_⟩) (by assumption) ?_
            rotate_left
            · (intro w hSw; (try dsimp only at hSw); go_simp); (try with_reducible rfl)
            try simp only [Act.put, List.setIfInBounds_toArray, List.set_cons_zero, List.set_cons_succ]
            refine wpAnyH_take (i := 6) (oi := { dst := some 199, op := Op.move (Operand.tmp 9), type := 25, pos := "top03_wt47d.go:94", after := #[{ on := 10, ground := Ground.gcOnly Departure.lateStores }], guard := none }) (v := ?_) rfl (by kernel_rfl) (by kernel_rfl) (by kernel_rfl) (fun _ _ _ h => h) (Or.inl ⟨by rfl, ?_⟩) (by assumption) ?_
            rotate_left
            · (intro w hSw; (try dsimp only at hSw); go_simp); (try with_reducible rfl)
            try simp only [Act.put, List.setIfInBounds_toArray, List.set_cons_zero, List.set_cons_succ]
            refine wpAnyH_take (i := 7) (oi := { dst := some 200, op := Op.indexAddr 25 (Operand.tmp 199) (Operand.const (Value.int IntKind.i64 2)), type := 0, pos := "top03_wt47d.go:94", after := #[{ on := 6, ground := Ground.data }, { on := 10, ground := Ground.gcOnly Departure.lateStores }], guard := none }) (v := ?_) rfl (by kernel_rfl) (by kernel_rfl) (by kernel_rfl) (fun _ _ _ h => h) (Or.inl ⟨by rfl, ?_⟩) (by assumption) ?_
            rotate_left
            · (intro w hSw; (try dsimp only at hSw); go_simp); (try with_reducible rfl)
            try simp only [Act.put, List.setIfInBounds_toArray, List.set_cons_zero, List.set_cons_succ]
            refine wpAnyH_take (i := 8) (oi := { dst := some 201, op := Op.load 3 (Operand.tmp 200), type := 3, pos := "top03_wt47d.go:94", after := #[{ on := 7, ground := Ground.data }, { on := 10, ground := Ground.gcOnly Departure.lateStores }], guard := none }) (v := ?_) rfl (by kernel_rfl) (by kernel_rfl) (by kernel_rfl) (fun _ _ _ h => h) (Or.inl ⟨by rfl, ?_⟩) (by assumption) ?_
            rotate_left
            · (intro w hSw; (try dsimp only at hSw); go_simp); (try with_reducible rfl)
            try simp only [Act.put, List.setIfInBounds_toArray, List.set_cons_zero, List.set_cons_succ]
            refine wpAnyH_take (i := 9) (oi := { dst := some 202, op := Op.binOp BinOp.mul 3 (Operand.tmp 198) (Operand.tmp 201) 3, type := 3, pos := "top03_wt47d.go:94", after := #[{ on := 5, ground := Ground.data }, { on := 8, ground := Ground.data }, { on := 10, ground := Ground.gcOnly Departure.lateStores }], guard := none }) (v := ?_) rfl (by kernel_rfl) (by kernel_rfl) (by kernel_rfl) (fun _ _ _ h => h) (Or.inl ⟨by rfl, ?_⟩) (by assumption) ?_
            rotate_left
            · (intro w hSw; (try dsimp only at hSw); go_simp); (try with_reducible rfl)
            try simp only [Act.put, List.setIfInBounds_toArray, List.set_cons_zero, List.set_cons_succ]
            refine wpAnyH_take (i := 10) (oi := { dst := some 25, op := Op.assign (Operand.tmp 197), type := 3, pos := "top03_wt47d.go:94", after := #[{ on := 4, ground := Ground.data }, { on := 0, ground := Ground.phase }, { on := 1, ground := Ground.phase }, { on := 2, ground := Ground.phase }, { on := 3, ground := Ground.phase }, { on := 4, ground := Ground.phase }, { on := 5, ground := Ground.textOnly Departure.lateStores }, { on := 6, ground := Ground.textOnly Departure.lateStores }, { on := 7, ground := Ground.textOnly Departure.lateStores }, { on := 8, ground := Ground.textOnly Departure.lateStores }, { on := 9, ground := Ground.textOnly Departure.lateStores }], guard := none }) (v := ?_) rfl (by kernel_rfl) (by kernel_rfl) (by kernel_rfl) (fun _ _ _ h => h) (Or.inl ⟨by rfl, ?_⟩) (by assumption) ?_
            rotate_left
            · (intro w hSw; (try dsimp only at hSw); go_simp); (try with_reducible rfl)
            try simp only [Act.put, List.setIfInBounds_toArray, List.set_cons_zero, List.set_cons_succ]
            refine wpAnyH_take (i := 11) (oi := { dst := some 26, op := Op.assign (Operand.tmp 202), type := 3, pos := "top03_wt47d.go:94", after := #[{ on := 9, ground := Ground.data }, { on := 10, ground := Ground.chain }, { on := 0, ground := Ground.phase }, { on := 1, ground := Ground.phase }, { on := 2, ground := Ground.phase }, { on := 3, ground := Ground.phase }, { on := 4, ground := Ground.phase }, { on := 5, ground := Ground.phase }, { on := 6, ground := Ground.phase }, { on := 7, ground := Ground.phase }, { on := 8, ground := Ground.phase }, { on := 9, ground := Ground.phase }, { on := 10, ground := Ground.phase }], guard := none }) (v := ?_) rfl (by kernel_rfl) (by kernel_rfl) (by kernel_rfl) (fun _ _ _ h => h) (Or.inl ⟨by rfl, ?_⟩) (by assumption) ?_
            rotate_left
            · (intro w hSw; (try dsimp only at hSw); go_simp); (try with_reducible rfl)
            try simp only [Act.put, List.setIfInBounds_toArray, List.set_cons_zero, List.set_cons_succ]
            refine wpAnyH_done (by kernel_rfl) ?_ _
            clear hHeld0
            go_wp2
            go_roundw
            case rel => exact ⟨k + 1, by omega, by go_num, by rw [HA1.out], by rw [HB1.out], hbr'.drew⟩
            case measure => simp [intOf]; omega
          · obtain rfl : k = 6 := by omega
            have hbw9 := bthen hbw8 hbr
            go_wp2_with (go_at_call 10; refine (washerPole_any _).mono ?_; rintro e w' ⟨rfl, h9⟩)
            go_ret
            exact ⟨rfl, bthen hbw9 h9⟩

end Go.Proofs.Ytnlmaildmeihgaa

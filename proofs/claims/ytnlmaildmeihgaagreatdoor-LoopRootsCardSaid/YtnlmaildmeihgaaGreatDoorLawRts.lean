/- The law LoopRoots. -/
import Derived.Test.YtnlmaildmeihgaaGreatDoorPlainQ
import Derived.Test.YtnlmaildmeihgaaGreatDoorAwakeE
namespace Go.Proofs.YtnlmaildmeihgaaGreatDoor
open Go.RowKit

theorem mulab {x y : Int} {A B : Nat} (hx : -(A : Int) ≤ x ∧ x ≤ A) (hy : -(B : Int) ≤ y ∧ y ≤ B) : -((A * B : Nat) : Int) ≤ x * y ∧ x * y ≤ ((A * B : Nat) : Int) := by
  have h : (x * y).natAbs ≤ A * B := by rw [Int.natAbs_mul]; exact Nat.mul_le_mul (by omega) (by omega)
  omega
theorem tmodB (x : Int) (m : Nat) (hm : 0 < m) : -((m : Int) - 1) ≤ x.tmod m ∧ x.tmod m ≤ (m : Int) - 1 := by
  have h := Int.natAbs_tmod x m
  have h2 : x.natAbs % (m : Int).natAbs < m := by rw [Int.natAbs_natCast]; exact Nat.mod_lt _ hm
  rw [← h] at h2
  omega
theorem rows_ok {p : List Int} : (tableW p).length ≤ p.length := tableL_length _ _

set_option maxRecDepth 100000 in
set_option maxHeartbeats 16000000 in
theorem rts_law (n0 n1 z0 z1 z2 : Int) (w : World) (hq : Quarters w) (hpw : Pows w) (b0 : -128 ≤ n0 ∧ n0 ≤ 127) (b1 : -128 ≤ n1 ∧ n1 ≤ 127) (k0 : -128 ≤ z0 ∧ z0 ≤ 127) (k1 : -128 ≤ z1 ∧ z1 ≤ 127) (k2 : -128 ≤ z2 ∧ z2 ≤ 127) :
    Calls Tryz.prog 15 #[.agg #[.int .i8 n0, .int .i8 n1], .agg #[.int .i8 z0, .int .i8 z1, .int .i8 z2]] w fun e w' => e = .returned (.bool true) ∧ Below w.heap.size w w' := by
  have c0 : IntKind.i64.wrap n0 = n0 := IntWalk.i64_in _ (by omega)
  have c1 : IntKind.i64.wrap n1 = n1 := IntWalk.i64_in _ (by omega)
  have c2 : IntKind.i64.wrap z0 = z0 := IntWalk.i64_in _ (by omega)
  have c3 : IntKind.i64.wrap z1 = z1 := IntWalk.i64_in _ (by omega)
  have c4 : IntKind.i64.wrap z2 = z2 := IntWalk.i64_in _ (by omega)
  clear b0 b1 k0 k1 k2
  obtain ⟨R, hR⟩ : ∃ R, n0.tmod 10 = R := ⟨_, rfl⟩
  have bR : -9 ≤ R ∧ R ≤ 9 := by have := tmodB n0 10 (by decide); rw [← hR]; simpa using this
  have m1 := tmodB n1 9 (by decide)
  obtain ⟨U, hU⟩ : ∃ U, n1.tmod 9 = U := ⟨_, rfl⟩
  have bU : -8 ≤ U ∧ U ≤ 8 := by rw [← hU]; simpa using m1
  have a1 : IntKind.i64.wrap (U + 9) = U + 9 := IntWalk.i64_in _ (by omega)
  obtain ⟨V, hV⟩ : ∃ V, (U + 9).tmod 9 = V := ⟨_, rfl⟩
  have bV : 0 ≤ V ∧ V ≤ 8 := by rw [← hV, Int.tmod_eq_emod_of_nonneg (by omega)]; omega
  obtain ⟨D, hD⟩ : ∃ D, 1 + V = D := ⟨_, rfl⟩
  have bD : 1 ≤ D ∧ D ≤ 9 := by omega
  have a2 : IntKind.i64.wrap (1 + V) = D := by rw [hD]; exact IntWalk.i64_in _ (by omega)
  obtain ⟨X, hX⟩ : ∃ X, z0.tmod 6 = X := ⟨_, rfl⟩
  have bX : -5 ≤ X ∧ X ≤ 5 := by have := tmodB z0 6 (by decide); rw [← hX]; simpa using this
  obtain ⟨Y, hY⟩ : ∃ Y, z1.tmod 6 = Y := ⟨_, rfl⟩
  have bY : -5 ≤ Y ∧ Y ≤ 5 := by have := tmodB z1 6 (by decide); rw [← hY]; simpa using this
  obtain ⟨S, hS⟩ : ∃ S, z2.tmod 7 = S := ⟨_, rfl⟩
  have bS : -6 ≤ S ∧ S ≤ 6 := by have := tmodB z2 7 (by decide); rw [← hS]; simpa using this
  have a3 : IntKind.i64.wrap (S + 7) = S + 7 := IntWalk.i64_in _ (by omega)
  obtain ⟨T, hT⟩ : ∃ T, (S + 7).tmod 7 = T := ⟨_, rfl⟩
  have bT : 0 ≤ T ∧ T ≤ 6 := by rw [← hT, Int.tmod_eq_emod_of_nonneg (by omega)]; omega
  obtain ⟨P, hP⟩ : ∃ P, 1 + T = P := ⟨_, rfl⟩
  have bP : 1 ≤ P ∧ P ≤ 7 := by omega
  have a4 : IntKind.i64.wrap (1 + T) = P := by rw [hP]; exact IntWalk.i64_in _ (by omega)
  have HRB := Lib.hid bR
  have HDB := Lib.hid bD
  have HXB := Lib.hid bX
  have HYB := Lib.hid bY
  have HPB := Lib.hid bP
  clear hD hP m1 bU bV bS bT bR bD bX bY bP
  go_enter Tryz.func15, Tryz.ntmps15
  go_upto_region 1 with fail
  obtain ⟨W1, hW1⟩ : ∃ v, v = World.alloc w (Obj.cells #[.int .i8 n0, .int .i8 n1] 112) := ⟨_, rfl⟩
  have kW1 : Below w.heap.size w W1 := by rw [hW1]; exact below_new _ _
  have iW1 : Blk W1 (w.heap.size) 112 [.int .i8 n0, .int .i8 n1] := by rw [hW1]; exact Blk.new _ _ _
  have sW1 : W1.heap.size = w.heap.size + 1 := by rw [hW1]; simp
  rw [← hW1]
  clear hW1
  obtain ⟨W2, hW2⟩ : ∃ v, v = World.alloc W1 (Obj.cells #[.int .i8 z0, .int .i8 z1, .int .i8 z2] 111) := ⟨_, rfl⟩
  have kW2 : Below W1.heap.size W1 W2 := by rw [hW2]; exact below_new _ _
  have iW2 : Blk W2 (w.heap.size + 1) 111 [.int .i8 z0, .int .i8 z1, .int .i8 z2] := by rw [hW2, ← sW1]; exact Blk.new _ _ _
  have sW2 : W2.heap.size = w.heap.size + 1 + 1 := by rw [hW2]; simp [sW1]
  rw [← hW2]
  clear hW2
  clear sW1 sW2
  have i1 := iW1.carry kW2
  have i2 := iW2
  have hB := bthen kW1 kW2
  clear iW1 iW2 kW1 kW2
  have e0 := i1.cell (j := 0) (v := .int .i8 n0) rfl
  have e1 := i1.cell (j := 1) (v := .int .i8 n1) rfl
  have e2 := i2.cell (j := 0) (v := .int .i8 z0) rfl
  have e3 := i2.cell (j := 1) (v := .int .i8 z1) rfl
  have e4 := i2.cell (j := 2) (v := .int .i8 z2) rfl
  refine wp_region_held_drew (S := (fun w' => w'.cell? ⟨w.heap.size, 0, none⟩ = some (.int .i8 n0) ∧ w'.cell? ⟨w.heap.size, 1, none⟩ = some (.int .i8 n1) ∧ w'.cell? ⟨w.heap.size + 1, 0, none⟩ = some (.int .i8 z0) ∧ w'.cell? ⟨w.heap.size + 1, 1, none⟩ = some (.int .i8 z1) ∧ w'.cell? ⟨w.heap.size + 1, 2, none⟩ = some (.int .i8 z2))) (by kernel_rfl) ?_ (fun hHeld0 => ?_)
  · (try dsimp only); go_keep
  refine wpAnyH_take (i := 0) (oi := { dst := some 31, op := Op.indexAddr 112 (Operand.tmp 2) (Operand.const (Value.int IntKind.i64 0)), type := 0, pos := "law.go:231", after := #[], guard := none }) (v := ?_) rfl (by kernel_rfl) (by kernel_rfl) (by kernel_rfl) (fun _ _ _ h => h) (Or.inl ⟨by rfl, ?_⟩) (by assumption) ?_
  rotate_left
  · (intro w hSw; (try dsimp only at hSw); go_simp); (try with_reducible rfl)
  try simp only [Act.put, List.setIfInBounds_toArray, List.set_cons_zero, List.set_cons_succ]
  refine wpAnyH_take (i := 1) (oi := { dst := some 32, op := Op.load 101 (Operand.tmp 31), type := 101, pos := "law.go:231", after := #[{ on := 0, ground := Ground.data }], guard := none }) (v := ?_) rfl (by kernel_rfl) (by kernel_rfl) (by kernel_rfl) (fun _ _ _ h => h) (Or.inl ⟨by rfl, ?_⟩) (by assumption) ?_
  rotate_left
  · (intro w hSw; (try dsimp only at hSw); go_simp); (try with_reducible rfl)
  try simp only [Act.put, List.setIfInBounds_toArray, List.set_cons_zero, List.set_cons_succ]
  refine wpAnyH_take (i := 2) (oi := { dst := some 33, op := Op.convert 101 3 (Operand.tmp 32), type := 3, pos := "law.go:231", after := #[{ on := 1, ground := Ground.data }], guard := none }) (v := ?_) rfl (by kernel_rfl) (by kernel_rfl) (by kernel_rfl) (fun _ _ _ h => h) (Or.inl ⟨by rfl, ?_⟩) (by assumption) ?_
  rotate_left
  · (intro w hSw; (try dsimp only at hSw); go_simp); (try with_reducible rfl)
  try simp only [Act.put, List.setIfInBounds_toArray, List.set_cons_zero, List.set_cons_succ]
  refine wpAnyH_take (i := 3) (oi := { dst := some 34, op := Op.binOp BinOp.rem 3 (Operand.tmp 33) (Operand.const (Value.int IntKind.i64 10)) 3, type := 3, pos := "law.go:231", after := #[{ on := 2, ground := Ground.data }], guard := none }) (v := ?_) rfl (by kernel_rfl) (by kernel_rfl) (by kernel_rfl) (fun _ _ _ h => h) (Or.inl ⟨by rfl, ?_⟩) (by assumption) ?_
  rotate_left
  · (intro w hSw; (try dsimp only at hSw); go_simp); (try with_reducible rfl)
  try simp only [Act.put, List.setIfInBounds_toArray, List.set_cons_zero, List.set_cons_succ]
  refine wpAnyH_take (i := 4) (oi := { dst := some 35, op := Op.indexAddr 112 (Operand.tmp 2) (Operand.const (Value.int IntKind.i64 1)), type := 0, pos := "law.go:231", after := #[{ on := 11, ground := Ground.gcOnly Departure.lateStores }], guard := none }) (v := ?_) rfl (by kernel_rfl) (by kernel_rfl) (by kernel_rfl) (fun _ _ _ h => h) (Or.inl ⟨by rfl, ?_⟩) (by assumption) ?_
  rotate_left
  · (intro w hSw; (try dsimp only at hSw); go_simp); (try with_reducible rfl)
  try simp only [Act.put, List.setIfInBounds_toArray, List.set_cons_zero, List.set_cons_succ]
  refine wpAnyH_take (i := 5) (oi := { dst := some 36, op := Op.load 101 (Operand.tmp 35), type := 101, pos := "law.go:231", after := #[{ on := 4, ground := Ground.data }, { on := 11, ground := Ground.gcOnly Departure.lateStores }], guard := none }) (v := ?_) rfl (by kernel_rfl) (by kernel_rfl) (by kernel_rfl) (fun _ _ _ h => h) (Or.inl ⟨by rfl, ?_⟩) (by assumption) ?_
  rotate_left
  · (intro w hSw; (try dsimp only at hSw); go_simp); (try with_reducible rfl)
  try simp only [Act.put, List.setIfInBounds_toArray, List.set_cons_zero, List.set_cons_succ]
  refine wpAnyH_take (i := 6) (oi := { dst := some 37, op := Op.convert 101 3 (Operand.tmp 36), type := 3, pos := "law.go:231", after := #[{ on := 5, ground := Ground.data }, { on := 11, ground := Ground.gcOnly Departure.lateStores }], guard := none }) (v := ?_) rfl (by kernel_rfl) (by kernel_rfl) (by kernel_rfl) (fun _ _ _ h => h) (Or.inl ⟨by rfl, ?_⟩) (by assumption) ?_
  rotate_left
  · (intro w hSw; (try dsimp only at hSw); go_simp); (try with_reducible rfl)
  try simp only [Act.put, List.setIfInBounds_toArray, List.set_cons_zero, List.set_cons_succ]
  refine wpAnyH_take (i := 7) (oi := { dst := some 38, op := Op.binOp BinOp.rem 3 (Operand.tmp 37) (Operand.const (Value.int IntKind.i64 9)) 3, type := 3, pos := "law.go:231", after := #[{ on := 6, ground := Ground.data }, { on := 11, ground := Ground.gcOnly Departure.lateStores }], guard := none }) (v := ?_) rfl (by kernel_rfl) (by kernel_rfl) (by kernel_rfl) (fun _ _ _ h => h) (Or.inl ⟨by rfl, ?_⟩) (by assumption) ?_
  rotate_left
  · (intro w hSw; (try dsimp only at hSw); go_simp); (try with_reducible rfl)
  try simp only [Act.put, List.setIfInBounds_toArray, List.set_cons_zero, List.set_cons_succ]
  refine wpAnyH_take (i := 8) (oi := { dst := some 39, op := Op.binOp BinOp.add 3 (Operand.tmp 38) (Operand.const (Value.int IntKind.i64 9)) 3, type := 3, pos := "law.go:231", after := #[{ on := 7, ground := Ground.data }, { on := 11, ground := Ground.gcOnly Departure.lateStores }], guard := none }) (v := ?_) rfl (by kernel_rfl) (by kernel_rfl) (by kernel_rfl) (fun _ _ _ h => h) (Or.inl ⟨by rfl, ?_⟩) (by assumption) ?_
  rotate_left
  · (intro w hSw; (try dsimp only at hSw); go_simp); (try with_reducible rfl)
  try simp only [Act.put, List.setIfInBounds_toArray, List.set_cons_zero, List.set_cons_succ]
  refine wpAnyH_take (i := 9) (oi := { dst := some 40, op := Op.binOp BinOp.rem 3 (Operand.tmp 39) (Operand.const (Value.int IntKind.i64 9)) 3, type := 3, pos := "law.go:231", after := #[{ on := 8, ground := Ground.data }, { on := 11, ground := Ground.gcOnly Departure.lateStores }], guard := none }) (v := ?_) rfl (by kernel_rfl) (by kernel_rfl) (by kernel_rfl) (fun _ _ _ h => h) (Or.inl ⟨by rfl, ?_⟩) (by assumption) ?_
  rotate_left
  · (intro w hSw; (try dsimp only at hSw); go_simp); (try with_reducible rfl)
  try simp only [Act.put, List.setIfInBounds_toArray, List.set_cons_zero, List.set_cons_succ]
  refine wpAnyH_take (i := 10) (oi := { dst := some 41, op := Op.binOp BinOp.add 3 (Operand.const (Value.int IntKind.i64 1)) (Operand.tmp 40) 3, type := 3, pos := "law.go:231", after := #[{ on := 9, ground := Ground.data }, { on := 11, ground := Ground.gcOnly Departure.lateStores }], guard := none }) (v := ?_) rfl (by kernel_rfl) (by kernel_rfl) (by kernel_rfl) (fun _ _ _ h => h) (Or.inl ⟨by rfl, ?_⟩) (by assumption) ?_
  rotate_left
  · (intro w hSw; (try dsimp only at hSw); go_simp); (try with_reducible rfl)
  try simp only [Act.put, List.setIfInBounds_toArray, List.set_cons_zero, List.set_cons_succ]
  refine wpAnyH_take (i := 11) (oi := { dst := some 5, op := Op.assign (Operand.tmp 34), type := 3, pos := "law.go:231", after := #[{ on := 3, ground := Ground.data }, { on := 0, ground := Ground.phase }, { on := 1, ground := Ground.phase }, { on := 2, ground := Ground.phase }, { on := 3, ground := Ground.phase }, { on := 4, ground := Ground.textOnly Departure.lateStores }, { on := 5, ground := Ground.textOnly Departure.lateStores }, { on := 6, ground := Ground.textOnly Departure.lateStores }, { on := 7, ground := Ground.textOnly Departure.lateStores }, { on := 8, ground := Ground.textOnly Departure.lateStores }, { on := 9, ground := Ground.textOnly Departure.lateStores }, { on := 10, ground := Ground.textOnly Departure.lateStores }], guard := none }) (v := ?_) rfl (by kernel_rfl) (by kernel_rfl) (by kernel_rfl) (fun _ _ _ h => h) (Or.inl ⟨by rfl, ?_⟩) (by assumption) ?_
  rotate_left
  · (intro w hSw; (try dsimp only at hSw); go_simp); (try with_reducible rfl)
  try simp only [Act.put, List.setIfInBounds_toArray, List.set_cons_zero, List.set_cons_succ]
  refine wpAnyH_take (i := 12) (oi := { dst := some 6, op := Op.assign (Operand.tmp 41), type := 3, pos := "law.go:231", after := #[{ on := 10, ground := Ground.data }, { on := 11, ground := Ground.chain }, { on := 0, ground := Ground.phase }, { on := 1, ground := Ground.phase }, { on := 2, ground := Ground.phase }, { on := 3, ground := Ground.phase }, { on := 4, ground := Ground.phase }, { on := 5, ground := Ground.phase }, { on := 6, ground := Ground.phase }, { on := 7, ground := Ground.phase }, { on := 8, ground := Ground.phase }, { on := 9, ground := Ground.phase }, { on := 10, ground := Ground.phase }, { on := 11, ground := Ground.phase }], guard := none }) (v := ?_) rfl (by kernel_rfl) (by kernel_rfl) (by kernel_rfl) (fun _ _ _ h => h) (Or.inl ⟨by rfl, ?_⟩) (by assumption) ?_
  rotate_left
  · (intro w hSw; (try dsimp only at hSw); go_simp); (try with_reducible rfl)
  try simp only [Act.put, List.setIfInBounds_toArray, List.set_cons_zero, List.set_cons_succ]
  refine wpAnyH_done (by kernel_rfl) ?_ _
  clear hHeld0
  replace hB : Below w.heap.size w W2.drew := hB.drew
  replace i2 := i2.carry (Below.refl _ _).drew
  obtain ⟨w1, hw1⟩ : ∃ v, v = W2.drew := ⟨_, rfl⟩
  rw [← hw1] at hB i2 ⊢
  clear hw1 e0 e1 e2 e3 e4 i1
  have e2 := i2.cell (j := 0) (v := .int .i8 z0) rfl
  have e3 := i2.cell (j := 1) (v := .int .i8 z1) rfl
  have e4 := i2.cell (j := 2) (v := .int .i8 z2) rfl
  go_wp2_with fail
  refine wp_region_held_drew (S := (fun w' => w'.cell? ⟨w.heap.size + 1, 0, none⟩ = some (.int .i8 z0) ∧ w'.cell? ⟨w.heap.size + 1, 1, none⟩ = some (.int .i8 z1) ∧ w'.cell? ⟨w.heap.size + 1, 2, none⟩ = some (.int .i8 z2))) (by kernel_rfl) ?_ (fun hHeld0 => ?_)
  · (try dsimp only); go_keep
  refine wpAnyH_take (i := 0) (oi := { dst := some 42, op := Op.indexAddr 111 (Operand.tmp 3) (Operand.const (Value.int IntKind.i64 0)), type := 0, pos := "law.go:232", after := #[], guard := none }) (v := ?_) rfl (by kernel_rfl) (by kernel_rfl) (by kernel_rfl) (fun _ _ _ h => h) (Or.inl ⟨by rfl, ?_⟩) (by assumption) ?_
  rotate_left
  · (intro w hSw; (try dsimp only at hSw); go_simp); (try with_reducible rfl)
  try simp only [Act.put, List.setIfInBounds_toArray, List.set_cons_zero, List.set_cons_succ]
  refine wpAnyH_take (i := 1) (oi := { dst := some 43, op := Op.load 101 (Operand.tmp 42), type := 101, pos := "law.go:232", after := #[{ on := 0, ground := Ground.data }], guard := none }) (v := ?_) rfl (by kernel_rfl) (by kernel_rfl) (by kernel_rfl) (fun _ _ _ h => h) (Or.inl ⟨by rfl, ?_⟩) (by assumption) ?_
  rotate_left
  · (intro w hSw; (try dsimp only at hSw); go_simp); (try with_reducible rfl)
  try simp only [Act.put, List.setIfInBounds_toArray, List.set_cons_zero, List.set_cons_succ]
  refine wpAnyH_take (i := 2) (oi := { dst := some 44, op := Op.convert 101 3 (Operand.tmp 43), type := 3, pos := "law.go:232", after := #[{ on := 1, ground := Ground.data }], guard := none }) (v := ?_) rfl (by kernel_rfl) (by kernel_rfl) (by kernel_rfl) (fun _ _ _ h => h) (Or.inl ⟨by rfl, ?_⟩) (by assumption) ?_
  rotate_left
  · (intro w hSw; (try dsimp only at hSw); go_simp); (try with_reducible rfl)
  try simp only [Act.put, List.setIfInBounds_toArray, List.set_cons_zero, List.set_cons_succ]
  refine wpAnyH_take (i := 3) (oi := { dst := some 45, op := Op.binOp BinOp.rem 3 (Operand.tmp 44) (Operand.const (Value.int IntKind.i64 6)) 3, type := 3, pos := "law.go:232", after := #[{ on := 2, ground := Ground.data }], guard := none }) (v := ?_) rfl (by kernel_rfl) (by kernel_rfl) (by kernel_rfl) (fun _ _ _ h => h) (Or.inl ⟨by rfl, ?_⟩) (by assumption) ?_
  rotate_left
  · (intro w hSw; (try dsimp only at hSw); go_simp); (try with_reducible rfl)
  try simp only [Act.put, List.setIfInBounds_toArray, List.set_cons_zero, List.set_cons_succ]
  refine wpAnyH_take (i := 4) (oi := { dst := some 46, op := Op.indexAddr 111 (Operand.tmp 3) (Operand.const (Value.int IntKind.i64 1)), type := 0, pos := "law.go:232", after := #[{ on := 15, ground := Ground.gcOnly Departure.lateStores }], guard := none }) (v := ?_) rfl (by kernel_rfl) (by kernel_rfl) (by kernel_rfl) (fun _ _ _ h => h) (Or.inl ⟨by rfl, ?_⟩) (by assumption) ?_
  rotate_left
  · (intro w hSw; (try dsimp only at hSw); go_simp); (try with_reducible rfl)
  try simp only [Act.put, List.setIfInBounds_toArray, List.set_cons_zero, List.set_cons_succ]
  refine wpAnyH_take (i := 5) (oi := { dst := some 47, op := Op.load 101 (Operand.tmp 46), type := 101, pos := "law.go:232", after := #[{ on := 4, ground := Ground.data }, { on := 15, ground := Ground.gcOnly Departure.lateStores }], guard := none }) (v := ?_) rfl (by kernel_rfl) (by kernel_rfl) (by kernel_rfl) (fun _ _ _ h => h) (Or.inl ⟨by rfl, ?_⟩) (by assumption) ?_
  rotate_left
  · (intro w hSw; (try dsimp only at hSw); go_simp); (try with_reducible rfl)
  try simp only [Act.put, List.setIfInBounds_toArray, List.set_cons_zero, List.set_cons_succ]
  refine wpAnyH_take (i := 6) (oi := { dst := some 48, op := Op.convert 101 3 (Operand.tmp 47), type := 3, pos := "law.go:232", after := #[{ on := 5, ground := Ground.data }, { on := 15, ground := Ground.gcOnly Departure.lateStores }], guard := none }) (v := ?_) rfl (by kernel_rfl) (by kernel_rfl) (by kernel_rfl) (fun _ _ _ h => h) (Or.inl ⟨by rfl, ?_⟩) (by assumption) ?_
  rotate_left
  · (intro w hSw; (try dsimp only at hSw); go_simp); (try with_reducible rfl)
  try simp only [Act.put, List.setIfInBounds_toArray, List.set_cons_zero, List.set_cons_succ]
  refine wpAnyH_take (i := 7) (oi := { dst := some 49, op := Op.binOp BinOp.rem 3 (Operand.tmp 48) (Operand.const (Value.int IntKind.i64 6)) 3, type := 3, pos := "law.go:232", after := #[{ on := 6, ground := Ground.data }, { on := 15, ground := Ground.gcOnly Departure.lateStores }], guard := none }) (v := ?_) rfl (by kernel_rfl) (by kernel_rfl) (by kernel_rfl) (fun _ _ _ h => h) (Or.inl ⟨by rfl, ?_⟩) (by assumption) ?_
  rotate_left
  · (intro w hSw; (try dsimp only at hSw); go_simp); (try with_reducible rfl)
  try simp only [Act.put, List.setIfInBounds_toArray, List.set_cons_zero, List.set_cons_succ]
  refine wpAnyH_take (i := 8) (oi := { dst := some 50, op := Op.indexAddr 111 (Operand.tmp 3) (Operand.const (Value.int IntKind.i64 2)), type := 0, pos := "law.go:232", after := #[{ on := 16, ground := Ground.gcOnly Departure.lateStores }], guard := none }) (v := ?_) rfl (by kernel_rfl) (by kernel_rfl) (by kernel_rfl) (fun _ _ _ h => h) (Or.inl ⟨by rfl, ?_⟩) (by assumption) ?_
  rotate_left
  · (intro w hSw; (try dsimp only at hSw); go_simp); (try with_reducible rfl)
  try simp only [Act.put, List.setIfInBounds_toArray, List.set_cons_zero, List.set_cons_succ]
  refine wpAnyH_take (i := 9) (oi := { dst := some 51, op := Op.load 101 (Operand.tmp 50), type := 101, pos := "law.go:232", after := #[{ on := 8, ground := Ground.data }, { on := 16, ground := Ground.gcOnly Departure.lateStores }], guard := none }) (v := ?_) rfl (by kernel_rfl) (by kernel_rfl) (by kernel_rfl) (fun _ _ _ h => h) (Or.inl ⟨by rfl, ?_⟩) (by assumption) ?_
  rotate_left
  · (intro w hSw; (try dsimp only at hSw); go_simp); (try with_reducible rfl)
  try simp only [Act.put, List.setIfInBounds_toArray, List.set_cons_zero, List.set_cons_succ]
  refine wpAnyH_take (i := 10) (oi := { dst := some 52, op := Op.convert 101 3 (Operand.tmp 51), type := 3, pos := "law.go:232", after := #[{ on := 9, ground := Ground.data }, { on := 16, ground := Ground.gcOnly Departure.lateStores }], guard := none }) (v := ?_) rfl (by kernel_rfl) (by kernel_rfl) (by kernel_rfl) (fun _ _ _ h => h) (Or.inl ⟨by rfl, ?_⟩) (by assumption) ?_
  rotate_left
  · (intro w hSw; (try dsimp only at hSw); go_simp); (try with_reducible rfl)
  try simp only [Act.put, List.setIfInBounds_toArray, List.set_cons_zero, List.set_cons_succ]
  refine wpAnyH_take (i := 11) (oi := { dst := some 53, op := Op.binOp BinOp.rem 3 (Operand.tmp 52) (Operand.const (Value.int IntKind.i64 7)) 3, type := 3, pos := "law.go:232", after := #[{ on := 10, ground := Ground.data }, { on := 16, ground := Ground.gcOnly Departure.lateStores }], guard := none }) (v := ?_) rfl (by kernel_rfl) (by kernel_rfl) (by kernel_rfl) (fun _ _ _ h => h) (Or.inl ⟨by rfl, ?_⟩) (by assumption) ?_
  rotate_left
  · (intro w hSw; (try dsimp only at hSw); go_simp); (try with_reducible rfl)
  try simp only [Act.put, List.setIfInBounds_toArray, List.set_cons_zero, List.set_cons_succ]
  refine wpAnyH_take (i := 12) (oi := { dst := some 54, op := Op.binOp BinOp.add 3 (Operand.tmp 53) (Operand.const (Value.int IntKind.i64 7)) 3, type := 3, pos := "law.go:232", after := #[{ on := 11, ground := Ground.data }, { on := 16, ground := Ground.gcOnly Departure.lateStores }], guard := none }) (v := ?_) rfl (by kernel_rfl) (by kernel_rfl) (by kernel_rfl) (fun _ _ _ h => h) (Or.inl ⟨by rfl, ?_⟩) (by assumption) ?_
  rotate_left
  · (intro w hSw; (try dsimp only at hSw); go_simp); (try with_reducible rfl)
  try simp only [Act.put, List.setIfInBounds_toArray, List.set_cons_zero, List.set_cons_succ]
  refine wpAnyH_take (i := 13) (oi := { dst := some 55, op := Op.binOp BinOp.rem 3 (Operand.tmp 54) (Operand.const (Value.int IntKind.i64 7)) 3, type := 3, pos := "law.go:232", after := #[{ on := 12, ground := Ground.data }, { on := 16, ground := Ground.gcOnly Departure.lateStores }], guard := none }) (v := ?_) rfl (by kernel_rfl) (by kernel_rfl) (by kernel_rfl) (fun _ _ _ h => h) (Or.inl ⟨by rfl, ?_⟩) (by assumption) ?_
  rotate_left
  · (intro w hSw; (try dsimp only at hSw); go_simp); (try with_reducible rfl)
  try simp only [Act.put, List.setIfInBounds_toArray, List.set_cons_zero, List.set_cons_succ]
  refine wpAnyH_take (i := 14) (oi := { dst := some 56, op := Op.binOp BinOp.add 3 (Operand.const (Value.int IntKind.i64 1)) (Operand.tmp 55) 3, type := 3, pos := "law.go:232", after := #[{ on := 13, ground := Ground.data }, { on := 16, ground := Ground.gcOnly Departure.lateStores }], guard := none }) (v := ?_) rfl (by kernel_rfl) (by kernel_rfl) (by kernel_rfl) (fun _ _ _ h => h) (Or.inl ⟨by rfl, ?_⟩) (by assumption) ?_
  rotate_left
  · (intro w hSw; (try dsimp only at hSw); go_simp); (try with_reducible rfl)
  try simp only [Act.put, List.setIfInBounds_toArray, List.set_cons_zero, List.set_cons_succ]
  refine wpAnyH_take (i := 15) (oi := { dst := some 7, op := Op.assign (Operand.tmp 45), type := 3, pos := "law.go:232", after := #[{ on := 3, ground := Ground.data }, { on := 0, ground := Ground.phase }, { on := 1, ground := Ground.phase }, { on := 2, ground := Ground.phase }, { on := 3, ground := Ground.phase }, { on := 4, ground := Ground.textOnly Departure.lateStores }, { on := 5, ground := Ground.textOnly Departure.lateStores }, { on := 6, ground := Ground.textOnly Departure.lateStores }, { on := 7, ground := Ground.textOnly Departure.lateStores }, { on := 8, ground := Ground.textOnly Departure.lateStores }, { on := 9, ground := Ground.textOnly Departure.lateStores }, { on := 10, ground := Ground.textOnly Departure.lateStores }, { on := 11, ground := Ground.textOnly Departure.lateStores }, { on := 12, ground := Ground.textOnly Departure.lateStores }, { on := 13, ground := Ground.textOnly Departure.lateStores }, { on := 14, ground := Ground.textOnly Departure.lateStores }], guard := none }) (v := ?_) rfl (by kernel_rfl) (by kernel_rfl) (by kernel_rfl) (fun _ _ _ h => h) (Or.inl ⟨by rfl, ?_⟩) (by assumption) ?_
  rotate_left
  · (intro w hSw; (try dsimp only at hSw); go_simp); (try with_reducible rfl)
  try simp only [Act.put, List.setIfInBounds_toArray, List.set_cons_zero, List.set_cons_succ]
  refine wpAnyH_take (i := 16) (oi := { dst := some 8, op := Op.assign (Operand.tmp 49), type := 3, pos := "law.go:232", after := #[{ on := 7, ground := Ground.data }, { on := 15, ground := Ground.chain }, { on := 0, ground := Ground.phase }, { on := 1, ground := Ground.phase }, { on := 2, ground := Ground.phase }, { on := 3, ground := Ground.phase }, { on := 4, ground := Ground.phase }, { on := 5, ground := Ground.phase }, { on := 6, ground := Ground.phase }, { on := 7, ground := Ground.phase }, { on := 8, ground := Ground.textOnly Departure.lateStores }, { on := 9, ground := Ground.textOnly Departure.lateStores }, { on := 10, ground := Ground.textOnly Departure.lateStores }, { on := 11, ground := Ground.textOnly Departure.lateStores }, { on := 12, ground := Ground.textOnly Departure.lateStores }, { on := 13, ground := Ground.textOnly Departure.lateStores }, { on := 14, ground := Ground.textOnly Departure.lateStores }, { on := 15, ground := Ground.phase }], guard := none }) (v := ?_) rfl (by kernel_rfl) (by kernel_rfl) (by kernel_rfl) (fun _ _ _ h => h) (Or.inl ⟨by rfl, ?_⟩) (by assumption) ?_
  rotate_left
  · (intro w hSw; (try dsimp only at hSw); go_simp); (try with_reducible rfl)
  try simp only [Act.put, List.setIfInBounds_toArray, List.set_cons_zero, List.set_cons_succ]
  refine wpAnyH_take (i := 17) (oi := { dst := some 9, op := Op.assign (Operand.tmp 56), type := 3, pos := "law.go:232", after := #[{ on := 14, ground := Ground.data }, { on := 16, ground := Ground.chain }, { on := 0, ground := Ground.phase }, { on := 1, ground := Ground.phase }, { on := 2, ground := Ground.phase }, { on := 3, ground := Ground.phase }, { on := 4, ground := Ground.phase }, { on := 5, ground := Ground.phase }, { on := 6, ground := Ground.phase }, { on := 7, ground := Ground.phase }, { on := 8, ground := Ground.phase }, { on := 9, ground := Ground.phase }, { on := 10, ground := Ground.phase }, { on := 11, ground := Ground.phase }, { on := 12, ground := Ground.phase }, { on := 13, ground := Ground.phase }, { on := 14, ground := Ground.phase }, { on := 15, ground := Ground.phase }, { on := 16, ground := Ground.phase }], guard := none }) (v := ?_) rfl (by kernel_rfl) (by kernel_rfl) (by kernel_rfl) (fun _ _ _ h => h) (Or.inl ⟨by rfl, ?_⟩) (by assumption) ?_
  rotate_left
  · (intro w hSw; (try dsimp only at hSw); go_simp); (try with_reducible rfl)
  try simp only [Act.put, List.setIfInBounds_toArray, List.set_cons_zero, List.set_cons_succ]
  refine wpAnyH_done (by kernel_rfl) ?_ _
  clear hHeld0
  replace hB : Below w.heap.size w w1.drew := hB.drew
  obtain ⟨w2, hw2⟩ : ∃ v, v = w1.drew := ⟨_, rfl⟩
  rw [← hw2] at hB ⊢
  clear hw2 e2 e3 e4 i2 c0 c1 c2 c3 c4 hR hU hV hX hY hS hT a1 a2 a3 a4
  have bR := HRB.out
  have bD := HDB.out
  have bX := HXB.out
  have bY := HYB.out
  have bP := HPB.out
  have qR := mulab (A := 9) (B := 9) (x := R) (y := R) (by omega) (by omega)
  have qD := mulab (A := 9) (B := 9) (x := D) (y := D) (by omega) (by omega)
  have qX := mulab (A := 5) (B := 5) (x := X) (y := X) (by omega) (by omega)
  have qY := mulab (A := 5) (B := 5) (x := Y) (y := Y) (by omega) (by omega)
  have qP := mulab (A := 7) (B := 7) (x := P) (y := P) (by omega) (by omega)
  have qM := mulab (A := 14) (B := 5) (x := -2 * P) (y := X) (by omega) (by omega)
  have q4 := mulab (A := 36) (B := 9) (x := 4 * R) (y := R) (by omega) (by omega)
  have f1 : IntKind.i64.wrap (-R) = -R := IntWalk.i64_in _ (by omega)
  have f2 : IntKind.i64.wrap (X * X) = X * X := IntWalk.i64_in _ (by omega)
  have f3 : IntKind.i64.wrap (Y * Y) = Y * Y := IntWalk.i64_in _ (by omega)
  have f4 : IntKind.i64.wrap (X * X + Y * Y) = X * X + Y * Y := IntWalk.i64_in _ (by omega)
  have f5 : IntKind.i64.wrap (-2 * P) = -2 * P := IntWalk.i64_in _ (by omega)
  have f6 : IntKind.i64.wrap (-2 * P * X) = -2 * P * X := IntWalk.i64_in _ (by omega)
  have f7 : IntKind.i64.wrap (P * P) = P * P := IntWalk.i64_in _ (by omega)
  have f8 : IntKind.i64.wrap (R * R) = R * R := IntWalk.i64_in _ (by omega)
  have f9 : IntKind.i64.wrap (D * D) = D * D := IntWalk.i64_in _ (by omega)
  have f10 : IntKind.i64.wrap (4 * R) = 4 * R := IntWalk.i64_in _ (by omega)
  have f11 : IntKind.i64.wrap (4 * R * R) = 4 * R * R := IntWalk.i64_in _ (by omega)
  have hl := line_of bR bD
  have hp := pair_of bX bY bP
  have hbo := both_of bR bD bX bY bP
  clear qR qD qX qY qP qM q4 bR bD bX bY bP
  unfold lineB at hl
  unfold pairB at hp
  unfold bothB at hbo
  simp only [Bool.and_eq_true, Bool.or_eq_true, beq_iff_eq, bne_iff_ne] at hl hp hbo
  obtain ⟨I, hI⟩ : ∃ I, decide (R * R < D * D) = I := ⟨_, rfl⟩
  obtain ⟨O, hO⟩ : ∃ O, decide (X * X + Y * Y < P * P) = O := ⟨_, rfl⟩
  obtain ⟨H4, h4⟩ : ∃ H4, decide (4 * R * R < D * D) = H4 := ⟨_, rfl⟩
  rw [hI, h4] at hl
  rw [hO] at hp
  rw [hI, hO] at hbo
  obtain ⟨⟨⟨⟨l1, l2⟩, l3⟩, l4⟩, l5⟩ := hl
  obtain ⟨p1, p2⟩ := hp
  rw [show (if R * R < D * D then (0 : Int) else 19) = if I then 0 else 19 by rw [← hI]; simp] at l3
  go_upto_region 4 with fail
  obtain ⟨W3, hW3⟩ : ∃ v, v = World.alloc w2 (Obj.cells #[.int .i64 (-R), .int .i64 D] 3) := ⟨_, rfl⟩
  have kW3 : Below w2.heap.size w2 W3 := by rw [hW3]; exact below_new _ _
  have iW3 : Blk W3 (w2.heap.size) 3 [.int .i64 (-R), .int .i64 D] := by rw [hW3]; exact Blk.new _ _ _
  have sW3 : W3.heap.size = w2.heap.size + 1 := by rw [hW3]; simp
  rw [← hW3]
  clear hW3
  obtain ⟨W4, hW4⟩ : ∃ v, v = World.alloc W3 (Obj.cells #[.int .i64 (X * X + Y * Y), .int .i64 (-2 * P * X), .int .i64 (P * P)] 3) := ⟨_, rfl⟩
  have kW4 : Below W3.heap.size W3 W4 := by rw [hW4]; exact below_new _ _
  have iW4 : Blk W4 (w2.heap.size + 1) 3 [.int .i64 (X * X + Y * Y), .int .i64 (-2 * P * X), .int .i64 (P * P)] := by rw [hW4, ← sW3]; exact Blk.new _ _ _
  have sW4 : W4.heap.size = w2.heap.size + 1 + 1 := by rw [hW4]; simp [sW3]
  rw [← hW4]
  clear hW4
  clear sW3 sW4
  have hLn : Ints W4 (.slice (some ⟨w2.heap.size, 0, none⟩) 2 2) (rLine R D) := BlkI.ints (n := 2) (l := [-R, D]) (iW3.carry kW4) rfl
  have hPr : Ints W4 (.slice (some ⟨w2.heap.size + 1, 0, none⟩) 3 3) (rPair X Y P) := BlkI.ints (n := 3) (l := [X * X + Y * Y, -2 * P * X, P * P]) iW4 rfl
  replace hB := bthen hB (bthen kW3 kW4)
  clear iW3 iW4 kW3 kW4 f1 f5 f6
  go_upto_region 6 with fail
  clear f2 f3 f4
  have hln : (rLine R D).length = 2 := rfl
  have hpn : (rPair X Y P).length = 3 := rfl
  generalize w2.heap.size = B at hLn hPr ⊢
  generalize rLine R D = Ln at hLn hln l1 l2 l3 l4 l5 hbo
  generalize rPair X Y P = Pr at hPr hpn p1 p2 hbo
  have HLn := Lib.hid hln
  have HPr := Lib.hid hpn
  have HL := Lib.hid hLn
  have HP := Lib.hid hPr
  have hsl : stableR Ln = I := by rw [stableR, if_neg (by rw [l1]; simp), l2]
  have hsp : stableR Pr = O := by rw [stableR, if_neg (by rw [p1]; simp), p2]
  have htl : tableR Ln = tableW Ln := by rw [tableR, if_neg (by rw [l1]; simp)]
  have htm : ∀ x ∈ tableW Ln, x.length ≤ 1000000 := fun x hx => by have := table_mem hx; omega
  have htn : (tableW Ln).length ≤ 2 := by have := tableL_length Ln.length Ln; unfold tableW; omega
  have ts := fun (u : Value) (W : World) (h : Ints W u Ln) => Stable_any u Ln W h (by omega)
  rw [hsl, l1] at ts
  have tt := fun (u : Value) (W : World) (h : Ints W u Ln) => Table_any u Ln W h (by omega)
  rw [htl, l1] at tt
  have tc := fun (u v : Value) (W : World) (h : Ints W u Ln) (h' : RowsOf W v (tableW Ln)) => CheckTable_any u v Ln _ W h h' (by omega)
  rw [l3] at tc
  have tc2 := fun (u v : Value) (W : World) (h : Ints W u [0, 1, 1]) (h' : RowsOf W v (tableW Ln)) => CheckTable_any u v [0, 1, 1] _ W h h' (by simp)
  rw [l4] at tc2
  have tsp := fun (u : Value) (W : World) (h : Ints W u Pr) => Stable_any u Pr W h (by omega)
  rw [hsp, p1] at tsp
  have tcp := fun (u : Value) (W : World) (h : Ints W u Pr) => CheckPolyR_any u Pr W h (by omega)
  rw [p1] at tcp
  have tpr := fun (u v : Value) (W : World) (h : Ints W u Ln) (h' : Ints W v Pr) => Product_any u v Ln Pr W h h' (by omega) (by omega)
  have hpg := prod_gen l1 p1 (by omega)
  have tsc := fun (u : Value) (W : World) (h : Ints W u Ln) => Scaled_any u Ln 2 1 W h (by omega) (by omega) (by omega)
  have twi := fun (u : Value) (W : World) (h : Ints W u Ln) => Within_any u Ln 1 2 W h (by omega) (by omega) (by omega)
  have TS := Lib.hid ts
  have TT := Lib.hid tt
  have TC2 := Lib.hid tc2
  have TSP := Lib.hid tsp
  have TCP := Lib.hid tcp
  have TPR := Lib.hid tpr
  have HPG := Lib.hid hpg
  have TSC := Lib.hid tsc
  have TWI := Lib.hid twi
  have HTM := Lib.hid htm
  have HTN := Lib.hid htn
  have HL5 := Lib.hid l5
  clear ts tt tc2 tsp tcp tpr hpg tsc twi htm htn htl hsl hsp hln hpn hLn hPr l1 l2 l3 l4 l5 p1 p2
  have zH : (H4 != H4) = false := by simp
  have zO : (O != O) = false := by simp
  have zO2 : (O == O) = true := by simp
  have hl0 : Below W4.heap.size W4 W4 := Below.refl _ _
  cases I
  all_goals
    simp only [Bool.true_and, Bool.false_and, if_true, Bool.false_eq_true, if_false] at hbo tc
    have HBO := Lib.hid hbo
    have TC := Lib.hid tc
    clear hbo tc
    go_wp2_with fail
    refine (polyL_any _ Ln W4 HL.out (by have := HLn.out; omega)).mono ?_
    rintro e v1 ⟨⟨u1, rfl, hu1⟩, hl⟩
    replace hl0 := bthen hl0 hl
    clear hl
    go_wp2_with fail
    refine (TS.out u1 v1 hu1).mono ?_
    rintro e v2 ⟨rfl, hl⟩
    replace hl0 := bthen hl0 hl
    clear hl hu1
    go_wp2_with fail
    refine (polyL_any _ Ln v2 (HL.out.carry hl0) (by have := HLn.out; omega)).mono ?_
    rintro e v3 ⟨⟨u3, rfl, hu3⟩, hl⟩
    replace hl0 := bthen hl0 hl
    clear hl
    go_wp2_with fail
    refine (TT.out u3 v3 hu3).mono ?_
    rintro e v4 ⟨⟨u4, rfl, hu4⟩, hl⟩
    replace hl0 := bthen hl0 hl
    clear hl hu3
    go_wp2_with fail
    refine (polyL_any _ Ln v4 (HL.out.carry hl0) (by have := HLn.out; omega)).mono ?_
    rintro e v5 ⟨⟨u5, rfl, hu5⟩, hl⟩
    replace hl0 := bthen hl0 hl
    replace hu4 := hu4.carry hl
    clear hl
    go_wp2_with fail
    refine (rowsL_any u4 _ v5 hu4 (by have := HTN.out; omega) HTM.out).mono ?_
    rintro e v6 ⟨⟨u6, rfl, hu6⟩, hl⟩
    replace hl0 := bthen hl0 hl
    replace hu4 := hu4.carry hl
    replace hu5 := hu5.carry hl
    clear hl
    go_wp2_with fail
    refine (tableL_any u6 _ v6 hu6 (by have := HTN.out; omega) HTM.out).mono ?_
    rintro e v7 ⟨⟨u7, rfl, hu7⟩, hl⟩
    replace hl0 := bthen hl0 hl
    replace hu4 := hu4.carry hl
    replace hu5 := hu5.carry hl
    clear hl hu6
    go_wp2_with fail
    refine (TC.out u5 u7 v7 hu5 hu7).mono ?_
    rintro e v8 ⟨rfl, hl⟩
    replace hl0 := bthen hl0 hl
    replace hu4 := hu4.carry hl
    clear hl hu5 hu7
    go_wp2_with fail
    obtain ⟨v9, hv9⟩ : ∃ v, v = World.alloc v8 (Obj.cells #[.int .i64 0, .int .i64 1, .int .i64 1] 3) := ⟨_, rfl⟩
    have kv9 : Below v8.heap.size v8 v9 := by rw [hv9]; exact below_new _ _
    have iv9 : Blk v9 (v8.heap.size) 3 [.int .i64 0, .int .i64 1, .int .i64 1] := by rw [hv9]; exact Blk.new _ _ _
    have sv9 : v9.heap.size = v8.heap.size + 1 := by rw [hv9]; simp
    rw [← hv9]
    clear hv9
    clear sv9
    have h9 : Ints v9 (.slice (some ⟨v8.heap.size, 0, none⟩) 3 3) [0, 1, 1] := BlkI.ints (n := 3) (l := [0, 1, 1]) iv9 rfl
    replace hl0 := bthen hl0 kv9
    replace hu4 := hu4.carry kv9
    clear iv9 kv9
    refine (polyL_any _ [0, 1, 1] v9 h9 (by simp)).mono ?_
    rintro e y1 ⟨⟨x1, rfl, hx1⟩, hl⟩
    replace hl0 := bthen hl0 hl
    replace hu4 := hu4.carry hl
    clear hl h9
    go_wp2_with fail
    refine (rowsL_any u4 _ y1 hu4 (by have := HTN.out; omega) HTM.out).mono ?_
    rintro e y2 ⟨⟨x2, rfl, hx2⟩, hl⟩
    replace hl0 := bthen hl0 hl
    replace hx1 := hx1.carry hl
    clear hl hu4
    go_wp2_with fail
    refine (tableL_any x2 _ y2 hx2 (by have := HTN.out; omega) HTM.out).mono ?_
    rintro e y3 ⟨⟨x3, rfl, hx3⟩, hl⟩
    replace hl0 := bthen hl0 hl
    replace hx1 := hx1.carry hl
    clear hl hx2
    go_wp2_with fail
    refine (TC2.out x1 x3 y3 hx1 hx3).mono ?_
    rintro e y4 ⟨rfl, hl⟩
    replace hl0 := bthen hl0 hl
    clear hl hx1 hx3
    go_wp2_with fail
    refine (polyL_any _ Ln y4 (HL.out.carry hl0) (by have := HLn.out; omega)).mono ?_
    rintro e y5 ⟨⟨x5, rfl, hx5⟩, hl⟩
    replace hl0 := bthen hl0 hl
    clear hl
    go_wp2_with fail
    refine (TSC.out x5 y5 hx5).mono ?_
    rintro e y6 ⟨⟨x6, rfl, hx6⟩, hl⟩
    replace hl0 := bthen hl0 hl
    clear hl hx5
    obtain ⟨E, hE⟩ : ∃ E, E = scaledE Ln 2 1 := ⟨_, rfl⟩
    rw [← hE]
    have HE := Lib.hid hE
    clear hE
    go_upto_if 152 with fail
    go_cut [] from 153 to 187 (fun wn => Below y6.heap.size y6 wn)
    case first =>
      by_cases hz : E = 0
      · have h5 := HL5.out
        rw [← HE.out, hz] at h5
        simp only [ne_eq, not_true_eq_false, false_or] at h5
        obtain ⟨⟨⟨s1, s2⟩, s3⟩, s4⟩ := h5
        have tss := fun (W : World) (h : Ints W x6 (scaledR Ln 2 1)) => Stable_any x6 _ W h (by have := checkPolyE_ok s1; omega)
        rw [show stableR (scaledR Ln 2 1) = H4 by rw [stableR, if_neg (by rw [s1]; simp), s2], s1] at tss
        have TSS := Lib.hid tss
        have tww := TWI.out
        rw [s3, s4] at tww
        have TWW := Lib.hid tww
        subst hz
        clear s1 s2 s3 s4 tss tww
        go_wp2_with fail
        refine (TSS.out y6 hx6).mono ?_
        rintro e y7 ⟨rfl, hl⟩
        replace hl1 := bthen hl0 hl
        have hl2 := hl
        clear hl
        go_wp2_with fail
        refine (polyL_any _ Ln y7 (HL.out.carry hl1) (by have := HLn.out; omega)).mono ?_
        rintro e y8 ⟨⟨x8, rfl, hx8⟩, hl⟩
        replace hl2 := bthen hl2 hl
        clear hl
        go_wp2_with fail
        refine (TWW.out x8 y8 hx8).mono ?_
        rintro e y9 ⟨rfl, hl⟩
        replace hl2 := bthen hl2 hl
        clear hl hx8
        go_wp2_with fail
        go_meet
        exact hl2
      · have zE : (E == 0) = false := by rw [beq_eq_false_iff_ne]; exact hz
        go_wp2_with fail
        go_meet
        exact Below.refl _ _
    case rest =>
      replace hl0 := bthen hl0 hcut
      obtain ⟨y6', rfl⟩ : ∃ v, v = wc := ⟨_, rfl⟩
      clear hcut hx6 HE
      go_wp2_with fail
      refine (TCP.out _ y6' (HP.out.carry hl0)).mono ?_
      rintro e y7 ⟨rfl, rfl⟩
      go_wp2_with fail
      refine (polyL_any _ Pr y6' (HP.out.carry hl0) (by have := HPr.out; omega)).mono ?_
      rintro e y7 ⟨⟨x7, rfl, hx7⟩, hl⟩
      replace hl0 := bthen hl0 hl
      clear hl
      go_wp2_with fail
      refine (TSP.out x7 y7 hx7).mono ?_
      rintro e y8 ⟨rfl, hl⟩
      replace hl0 := bthen hl0 hl
      clear hl hx7
      go_wp2_with fail
      refine (polyL_any _ Ln y8 (HL.out.carry hl0) (by have := HLn.out; omega)).mono ?_
      rintro e y9 ⟨⟨x9, rfl, hx9⟩, hl⟩
      replace hl0 := bthen hl0 hl
      clear hl
      go_wp2_with fail
      refine (polyL_any _ Pr y9 (HP.out.carry hl0) (by have := HPr.out; omega)).mono ?_
      rintro e t1 ⟨⟨o1, rfl, ho1⟩, hl⟩
      replace hl0 := bthen hl0 hl
      replace hx9 := hx9.carry hl
      clear hl
      rcases HPG.out with ⟨g1, g2, g3, g4⟩ | g1
      · have tpp := TPR.out x9 o1 t1 hx9 ho1
        rw [g1, g2] at tpp
        have hst : stableR (timesW Ln Pr) = stableB (timesW Ln Pr) := by rw [stableR, if_neg (by rw [g3]; simp)]
        have h6 := HBO.out
        rw [g4] at h6
        simp only [Bool.false_eq_true, false_or] at h6
        have tst := fun (u : Value) (W : World) (h : Ints W u (timesW Ln Pr)) => Stable_any u _ W h (by have := checkPolyE_ok g3; omega)
        rw [hst, h6, g3] at tst
        have TPP := Lib.hid tpp
        have TST := Lib.hid tst
        clear g1 g2 g3 g4 h6 hst tpp tst
        go_wp2_with fail
        refine TPP.out.mono ?_
        rintro e t2 ⟨⟨o2, rfl, ho2⟩, hl⟩
        replace hl0 := bthen hl0 hl
        clear hl
        go_wp2_with fail
        refine (TST.out o2 t2 ho2).mono ?_
        rintro e t3 ⟨rfl, hl⟩
        replace hl0 := bthen hl0 hl
        clear hl ho2
        replace hB := bthen hB hl0
        go_wp2_with fail
        refine (awake_any t3 (hq.below hB hq.size) (hpw.below hB)).mono ?_
        rintro e t4 ⟨rfl, hl⟩
        go_wp2
        go_ret
        exact ⟨rfl, bthen hB hl⟩
      · have tpp := TPR.out x9 o1 t1 hx9 ho1
        rw [g1] at tpp
        have TPP := Lib.hid tpp
        clear g1 tpp
        go_wp2_with fail
        refine TPP.out.mono ?_
        rintro e t2 ⟨⟨o2, rfl, ho2⟩, hl⟩
        replace hl0 := bthen hl0 hl
        clear hl
        replace hB := bthen hB hl0
        go_wp2_with fail
        refine (awake_any t2 (hq.below hB hq.size) (hpw.below hB)).mono ?_
        rintro e t4 ⟨rfl, hl⟩
        go_wp2
        go_ret
        exact ⟨rfl, bthen hB hl⟩

end Go.Proofs.YtnlmaildmeihgaaGreatDoor

/- The walk of TopWasherCertified. -/
import Derived.Test.YtnlmaildmeihgaaWashLoop
import Derived.Deep.DeepCutAuto
namespace Go.Proofs.Ytnlmaildmeihgaa
open Go.RowKit

theorem tmod_bd' (x : Int) (m : Nat) (hm : 0 < m) : -((m : Int) - 1) ≤ x.tmod m ∧ x.tmod m ≤ (m : Int) - 1 := by
  have h := Int.natAbs_tmod x m
  have := Nat.mod_lt x.natAbs (show 0 < (m : Int).natAbs by simpa using hm)
  omega

def cD (x : Int) : Int := IntKind.i64.wrap (1 + (IntKind.i64.wrap ((IntKind.i64.wrap x).tmod 9 + 9)).tmod 9)
def cP (x : Int) : Int := (IntKind.i64.wrap x).tmod 10
def cN (x : Int) : Int := IntKind.i64.wrap (1 + (IntKind.i64.wrap ((IntKind.i64.wrap x).tmod 3 + 3)).tmod 3)
theorem cP_bd (x : Int) : -9 ≤ cP x ∧ cP x ≤ 9 := by
  have := tmod_bd' (IntKind.i64.wrap x) 10 (by decide)
  unfold cP
  simpa using this
theorem cDN_bd (x : Int) (m : Nat) (hm : 0 < m) (hm2 : m ≤ 100) : 1 ≤ IntKind.i64.wrap (1 + (IntKind.i64.wrap ((IntKind.i64.wrap x).tmod m + m)).tmod m) ∧ IntKind.i64.wrap (1 + (IntKind.i64.wrap ((IntKind.i64.wrap x).tmod m + m)).tmod m) ≤ m := by
  have h := tmod_bd' (IntKind.i64.wrap x) m hm
  generalize (IntKind.i64.wrap x).tmod m = z at h
  have e1 : IntKind.i64.wrap (z + m) = z + m := IntWalk.i64_in _ (by omega)
  rw [e1]
  have h2 : 0 ≤ (z + m).tmod m ∧ (z + m).tmod m ≤ (m : Int) - 1 := by
    rw [Int.tmod_eq_emod_of_nonneg (by omega)]
    have h3 := Int.emod_nonneg (z + m) (show (m : Int) ≠ 0 by omega)
    have h4 := Int.emod_lt_of_pos (z + m) (show (0 : Int) < m by omega)
    omega
  generalize (z + m).tmod m = y at h2
  have e2 : IntKind.i64.wrap (1 + y) = 1 + y := IntWalk.i64_in _ (by omega)
  rw [e2]; omega
theorem cD_bd (x : Int) : 1 ≤ cD x ∧ cD x ≤ 9 := cDN_bd x 9 (by decide) (by decide)
theorem cN_bd (x : Int) : 1 ≤ cN x ∧ cN x ≤ 3 := cDN_bd x 3 (by decide) (by decide)

set_option maxRecDepth 100000 in
set_option maxHeartbeats 8000000 in
theorem cert_law (a0 a1 a2 g0 g1 vv : Int) (hg0 : 0 ≤ g0 ∧ g0 ≤ 255) (hg1 : 0 ≤ g1 ∧ g1 ≤ 255) (hvv : 0 ≤ vv ∧ vv ≤ 255) (w : World) :
    Calls Try.prog 4 #[.agg #[.int .i8 a0, .int .i8 a1, .int .i8 a2], .agg #[.int .u8 g0, .int .u8 g1], .int .u8 vv] w fun r w' => r = .returned (.bool true) ∧ Below w.heap.size w w' := by
  go_enter Try.func4, Try.ntmps4
  go_wp2_with fail
  obtain ⟨w1, hw1⟩ : ∃ v, v = w.alloc (Obj.cells #[.int .i8 a0, .int .i8 a1, .int .i8 a2] 40) := ⟨_, rfl⟩
  have b1 : Below w.heap.size w w1 := by rw [hw1]; exact below_new _ _
  have s1 : w1.heap.size = w.heap.size + 1 := by rw [hw1]; simp
  have z1 : Blk w1 w.heap.size 40 [.int .i8 a0, .int .i8 a1, .int .i8 a2] := by rw [hw1]; exact Blk.new _ _ _
  rw [← hw1]
  obtain ⟨W, hW⟩ : ∃ v, v = w1.alloc (Obj.cells #[.int .u8 g0, .int .u8 g1] 41) := ⟨_, rfl⟩
  have b2 : Below w1.heap.size w1 W := by rw [hW]; exact below_new _ _
  have y : Blk W (w.heap.size + 1) 41 [.int .u8 g0, .int .u8 g1] := by rw [hW, ← s1]; exact Blk.new _ _ _
  rw [← hW]
  have hbW := bthen b1 b2
  have z := z1.carry b2
  clear hW hw1 b1 b2 z1 s1
  have k0 := z.cell (j := 0) rfl
  have k1 := z.cell (j := 1) rfl
  have k2 := z.cell (j := 2) rfl
  go_upto_region 1 with fail
  go_cut [7, 8, 9] from 26 to 43 (fun v7 v8 v9 wx => ∃ den pole num : Int, v7 = .int .i64 den ∧ v8 = .int .i64 pole ∧ v9 = .int .i64 num ∧ (1 ≤ den ∧ den ≤ 9) ∧ (-9 ≤ pole ∧ pole ≤ 9) ∧ (1 ≤ num ∧ num ≤ 3) ∧ wx = W.drew)
  case first =>
   as_aux_lemma =>
    refine wp_region_held_drew (S := (fun w' => w'.cell? ⟨w.heap.size, 0, none⟩ = some (.int .i8 a0) ∧ w'.cell? ⟨w.heap.size, 1, none⟩ = some (.int .i8 a1) ∧ w'.cell? ⟨w.heap.size, 2, none⟩ = some (.int .i8 a2))) (by kernel_rfl) ?_ (fun hHeld0 => ?_)
    · (try dsimp only); go_keep
    refine wpAnyH_take (i := 0) (oi := { dst := some 26, op := Op.indexAddr 40 (Operand.tmp 3) (Operand.const (Value.int IntKind.i64 0)), type := 0, pos := "top03_wt47d.go:24", after := #[], guard := none }) (v := ?_) rfl (by kernel_rfl) (by kernel_rfl) (by kernel_rfl) (fun _ _ _ h => h) (Or.inl ⟨by rfl, ?_⟩) (by assumption) ?_
    rotate_left
    · (intro w hSw; (try dsimp only at hSw); go_simp); (try with_reducible rfl)
    try simp only [Act.put, List.setIfInBounds_toArray, List.set_cons_zero, List.set_cons_succ]
    refine wpAnyH_take (i := 1) (oi := { dst := some 27, op := Op.load 22 (Operand.tmp 26), type := 22, pos := "top03_wt47d.go:24", after := #[{ on := 0, ground := Ground.data }], guard := none }) (v := ?_) rfl (by kernel_rfl) (by kernel_rfl) (by kernel_rfl) (fun _ _ _ h => h) (Or.inl ⟨by rfl, ?_⟩) (by assumption) ?_
    rotate_left
    · (intro w hSw; (try dsimp only at hSw); go_simp); (try with_reducible rfl)
    try simp only [Act.put, List.setIfInBounds_toArray, List.set_cons_zero, List.set_cons_succ]
    refine wpAnyH_take (i := 2) (oi := { dst := some 28, op := Op.convert 22 3 (Operand.tmp 27), type := 3, pos := "top03_wt47d.go:24", after := #[{ on := 1, ground := Ground.data }], guard := none }) (v := ?_) rfl (by kernel_rfl) (by kernel_rfl) (by kernel_rfl) (fun _ _ _ h => h) (Or.inl ⟨by rfl, ?_⟩) (by assumption) ?_
    rotate_left
    · (intro w hSw; (try dsimp only at hSw); go_simp); (try with_reducible rfl)
    try simp only [Act.put, List.setIfInBounds_toArray, List.set_cons_zero, List.set_cons_succ]
    refine wpAnyH_take (i := 3) (oi := { dst := some 29, op := Op.binOp BinOp.rem 3 (Operand.tmp 28) (Operand.const (Value.int IntKind.i64 9)) 3, type := 3, pos := "top03_wt47d.go:24", after := #[{ on := 2, ground := Ground.data }], guard := none }) (v := ?_) rfl (by kernel_rfl) (by kernel_rfl) (by kernel_rfl) (fun _ _ _ h => h) (Or.inl ⟨by rfl, ?_⟩) (by assumption) ?_
    rotate_left
    · (intro w hSw; (try dsimp only at hSw); go_simp); (try with_reducible rfl)
    try simp only [Act.put, List.setIfInBounds_toArray, List.set_cons_zero, List.set_cons_succ]
    refine wpAnyH_take (i := 4) (oi := { dst := some 30, op := Op.binOp BinOp.add 3 (Operand.tmp 29) (Operand.const (Value.int IntKind.i64 9)) 3, type := 3, pos := "top03_wt47d.go:24", after := #[{ on := 3, ground := Ground.data }], guard := none }) (v := ?_) rfl (by kernel_rfl) (by kernel_rfl) (by kernel_rfl) (fun _ _ _ h => h) (Or.inl ⟨by rfl, ?_⟩) (by assumption) ?_
    rotate_left
    · (intro w hSw; (try dsimp only at hSw); go_simp); (try with_reducible rfl)
    try simp only [Act.put, List.setIfInBounds_toArray, List.set_cons_zero, List.set_cons_succ]
    refine wpAnyH_take (i := 5) (oi := { dst := some 31, op := Op.binOp BinOp.rem 3 (Operand.tmp 30) (Operand.const (Value.int IntKind.i64 9)) 3, type := 3, pos := "top03_wt47d.go:24", after := #[{ on := 4, ground := Ground.data }], guard := none }) (v := ?_) rfl (by kernel_rfl) (by kernel_rfl) (by kernel_rfl) (fun _ _ _ h => h) (Or.inl ⟨by rfl, ?_⟩) (by assumption) ?_
    rotate_left
    · (intro w hSw; (try dsimp only at hSw); go_simp); (try with_reducible rfl)
    try simp only [Act.put, List.setIfInBounds_toArray, List.set_cons_zero, List.set_cons_succ]
    refine wpAnyH_take (i := 6) (oi := { dst := some 32, op := Op.binOp BinOp.add 3 (Operand.const (Value.int IntKind.i64 1)) (Operand.tmp 31) 3, type := 3, pos := "top03_wt47d.go:24", after := #[{ on := 5, ground := Ground.data }], guard := none }) (v := ?_) rfl (by kernel_rfl) (by kernel_rfl) (by kernel_rfl) (fun _ _ _ h => h) (Or.inl ⟨by rfl, ?_⟩) (by assumption) ?_
    rotate_left
    · (intro w hSw; (try dsimp only at hSw); go_simp); (try with_reducible rfl)
    try simp only [Act.put, List.setIfInBounds_toArray, List.set_cons_zero, List.set_cons_succ]
    refine wpAnyH_take (i := 7) (oi := { dst := some 33, op := Op.indexAddr 40 (Operand.tmp 3) (Operand.const (Value.int IntKind.i64 1)), type := 0, pos := "top03_wt47d.go:24", after := #[{ on := 18, ground := Ground.gcOnly Departure.lateStores }], guard := none }) (v := ?_) rfl (by kernel_rfl) (by kernel_rfl) (by kernel_rfl) (fun _ _ _ h => h) (Or.inl ⟨by rfl, ?_⟩) (by assumption) ?_
    rotate_left
    · (intro w hSw; (try dsimp only at hSw); go_simp); (try with_reducible rfl)
    try simp only [Act.put, List.setIfInBounds_toArray, List.set_cons_zero, List.set_cons_succ]
    refine wpAnyH_take (i := 8) (oi := { dst := some 34, op := Op.load 22 (Operand.tmp 33), type := 22, pos := "top03_wt47d.go:24", after := #[{ on := 7, ground := Ground.data }, { on := 18, ground := Ground.gcOnly Departure.lateStores }], guard := none }) (v := ?_) rfl (by kernel_rfl) (by kernel_rfl) (by kernel_rfl) (fun _ _ _ h => h) (Or.inl ⟨by rfl, ?_⟩) (by assumption) ?_
    rotate_left
    · (intro w hSw; (try dsimp only at hSw); go_simp); (try with_reducible rfl)
    try simp only [Act.put, List.setIfInBounds_toArray, List.set_cons_zero, List.set_cons_succ]
    refine wpAnyH_take (i := 9) (oi := { dst := some 35, op := Op.convert 22 3 (Operand.tmp 34), type := 3, pos := "top03_wt47d.go:24", after := #[{ on := 8, ground := Ground.data }, { on := 18, ground := Ground.gcOnly Departure.lateStores }], guard := none }) (v := ?_) rfl (by kernel_rfl) (by kernel_rfl) (by kernel_rfl) (fun _ _ _ h => h) (Or.inl ⟨by rfl, ?_⟩) (by assumption) ?_
    rotate_left
    · (intro w hSw; (try dsimp only at hSw); go_simp); (try with_reducible rfl)
    try simp only [Act.put, List.setIfInBounds_toArray, List.set_cons_zero, List.set_cons_succ]
    refine wpAnyH_take (i := 10) (oi := { dst := some 36, op := Op.binOp BinOp.rem 3 (Operand.tmp 35) (Operand.const (Value.int IntKind.i64 10)) 3, type := 3, pos := "top03_wt47d.go:24", after := #[{ on := 9, ground := Ground.data }, { on := 18, ground := Ground.gcOnly Departure.lateStores }], guard := none }) (v := ?_) rfl (by kernel_rfl) (by kernel_rfl) (by kernel_rfl) (fun _ _ _ h => h) (Or.inl ⟨by rfl, ?_⟩) (by assumption) ?_
    rotate_left
    · (intro w hSw; (try dsimp only at hSw); go_simp); (try with_reducible rfl)
    try simp only [Act.put, List.setIfInBounds_toArray, List.set_cons_zero, List.set_cons_succ]
    refine wpAnyH_take (i := 11) (oi := { dst := some 37, op := Op.indexAddr 40 (Operand.tmp 3) (Operand.const (Value.int IntKind.i64 2)), type := 0, pos := "top03_wt47d.go:24", after := #[{ on := 19, ground := Ground.gcOnly Departure.lateStores }], guard := none }) (v := ?_) rfl (by kernel_rfl) (by kernel_rfl) (by kernel_rfl) (fun _ _ _ h => h) (Or.inl ⟨by rfl, ?_⟩) (by assumption) ?_
    rotate_left
    · (intro w hSw; (try dsimp only at hSw); go_simp); (try with_reducible rfl)
    try simp only [Act.put, List.setIfInBounds_toArray, List.set_cons_zero, List.set_cons_succ]
    refine wpAnyH_take (i := 12) (oi := { dst := some 38, op := Op.load 22 (Operand.tmp 37), type := 22, pos := "top03_wt47d.go:24", after := #[{ on := 11, ground := Ground.data }, { on := 19, ground := Ground.gcOnly Departure.lateStores }], guard := none }) (v := ?_) rfl (by kernel_rfl) (by kernel_rfl) (by kernel_rfl) (fun _ _ _ h => h) (Or.inl ⟨by rfl, ?_⟩) (by assumption) ?_
    rotate_left
    · (intro w hSw; (try dsimp only at hSw); go_simp); (try with_reducible rfl)
    try simp only [Act.put, List.setIfInBounds_toArray, List.set_cons_zero, List.set_cons_succ]
    refine wpAnyH_take (i := 13) (oi := { dst := some 39, op := Op.convert 22 3 (Operand.tmp 38), type := 3, pos := "top03_wt47d.go:24", after := #[{ on := 12, ground := Ground.data }, { on := 19, ground := Ground.gcOnly Departure.lateStores }], guard := none }) (v := ?_) rfl (by kernel_rfl) (by kernel_rfl) (by kernel_rfl) (fun _ _ _ h => h) (Or.inl ⟨by rfl, ?_⟩) (by assumption) ?_
    rotate_left
    · (intro w hSw; (try dsimp only at hSw); go_simp); (try with_reducible rfl)
    try simp only [Act.put, List.setIfInBounds_toArray, List.set_cons_zero, List.set_cons_succ]
    refine wpAnyH_take (i := 14) (oi := { dst := some 40, op := Op.binOp BinOp.rem 3 (Operand.tmp 39) (Operand.const (Value.int IntKind.i64 3)) 3, type := 3, pos := "top03_wt47d.go:24", after := #[{ on := 13, ground := Ground.data }, { on := 19, ground := Ground.gcOnly Departure.lateStores }], guard := none }) (v := ?_) rfl (by kernel_rfl) (by kernel_rfl) (by kernel_rfl) (fun _ _ _ h => h) (Or.inl ⟨by rfl, ?_⟩) (by assumption) ?_
    rotate_left
    · (intro w hSw; (try dsimp only at hSw); go_simp); (try with_reducible rfl)
    try simp only [Act.put, List.setIfInBounds_toArray, List.set_cons_zero, List.set_cons_succ]
    refine wpAnyH_take (i := 15) (oi := { dst := some 41, op := Op.binOp BinOp.add 3 (Operand.tmp 40) (Operand.const (Value.int IntKind.i64 3)) 3, type := 3, pos := "top03_wt47d.go:24", after := #[{ on := 14, ground := Ground.data }, { on := 19, ground := Ground.gcOnly Departure.lateStores }], guard := none }) (v := ?_) rfl (by kernel_rfl) (by kernel_rfl) (by kernel_rfl) (fun _ _ _ h => h) (Or.inl ⟨by rfl, ?_⟩) (by assumption) ?_
    rotate_left
    · (intro w hSw; (try dsimp only at hSw); go_simp); (try with_reducible rfl)
    try simp only [Act.put, List.setIfInBounds_toArray, List.set_cons_zero, List.set_cons_succ]
    refine wpAnyH_take (i := 16) (oi := { dst := some 42, op := Op.binOp BinOp.rem 3 (Operand.tmp 41) (Operand.const (Value.int IntKind.i64 3)) 3, type := 3, pos := "top03_wt47d.go:24", after := #[{ on := 15, ground := Ground.data }, { on := 19, ground := Ground.gcOnly Departure.lateStores }], guard := none }) (v := ?_) rfl (by kernel_rfl) (by kernel_rfl) (by kernel_rfl) (fun _ _ _ h => h) (Or.inl ⟨by rfl, ?_⟩) (by assumption) ?_
    rotate_left
    · (intro w hSw; (try dsimp only at hSw); go_simp); (try with_reducible rfl)
    try simp only [Act.put, List.setIfInBounds_toArray, List.set_cons_zero, List.set_cons_succ]
    refine wpAnyH_take (i := 17) (oi := { dst := some 43, op := Op.binOp BinOp.add 3 (Operand.const (Value.int IntKind.i64 1)) (Operand.tmp 42) 3, type := 3, pos := "top03_wt47d.go:24", after := #[{ on := 16, ground := Ground.data }, { on := 19, ground := Ground.gcOnly Departure.lateStores }], guard := none }) (v := ?_) rfl (by kernel_rfl) (by kernel_rfl) (by kernel_rfl) (fun _ _ _ h => h) (Or.inl ⟨by rfl, ?_⟩) (by assumption) ?_
    rotate_left
    · (intro w hSw; (try dsimp only at hSw); go_simp); (try with_reducible rfl)
    try simp only [Act.put, List.setIfInBounds_toArray, List.set_cons_zero, List.set_cons_succ]
    refine wpAnyH_take (i := 18) (oi := { dst := some 7, op := Op.assign (Operand.tmp 32), type := 3, pos := "top03_wt47d.go:24", after := #[{ on := 6, ground := Ground.data }, { on := 0, ground := Ground.phase }, { on := 1, ground := Ground.phase }, { on := 2, ground := Ground.phase }, { on := 3, ground := Ground.phase }, { on := 4, ground := Ground.phase }, { on := 5, ground := Ground.phase }, { on := 6, ground := Ground.phase }, { on := 7, ground := Ground.textOnly Departure.lateStores }, { on := 8, ground := Ground.textOnly Departure.lateStores }, { on := 9, ground := Ground.textOnly Departure.lateStores }, { on := 10, ground := Ground.textOnly Departure.lateStores }, { on := 11, ground := Ground.textOnly Departure.lateStores }, { on := 12, ground := Ground.textOnly Departure.lateStores }, { on := 13, ground := Ground.textOnly Departure.lateStores }, { on := 14, ground := Ground.textOnly Departure.lateStores }, { on := 15, ground := Ground.textOnly Departure.lateStores }, { on := 16, ground := Ground.textOnly Departure.lateStores }, { on := 17, ground := Ground.textOnly Departure.lateStores }], guard := none }) (v := ?_) rfl (by kernel_rfl) (by kernel_rfl) (by kernel_rfl) (fun _ _ _ h => h) (Or.inl ⟨by rfl, ?_⟩) (by assumption) ?_
    rotate_left
    · (intro w hSw; (try dsimp only at hSw); go_simp); (try with_reducible rfl)
    try simp only [Act.put, List.setIfInBounds_toArray, List.set_cons_zero, List.set_cons_succ]
    refine wpAnyH_take (i := 19) (oi := { dst := some 8, op := Op.assign (Operand.tmp 36), type := 3, pos := "top03_wt47d.go:24", after := #[{ on := 10, ground := Ground.data }, { on := 18, ground := Ground.chain }, { on := 0, ground := Ground.phase }, { on := 1, ground := Ground.phase }, { on := 2, ground := Ground.phase }, { on := 3, ground := Ground.phase }, { on := 4, ground := Ground.phase }, { on := 5, ground := Ground.phase }, { on := 6, ground := Ground.phase }, { on := 7, ground := Ground.phase }, { on := 8, ground := Ground.phase }, { on := 9, ground := Ground.phase }, { on := 10, ground := Ground.phase }, { on := 11, ground := Ground.textOnly Departure.lateStores }, { on := 12, ground := Ground.textOnly Departure.lateStores }, { on := 13, ground := Ground.textOnly Departure.lateStores }, { on := 14, ground := Ground.textOnly Departure.lateStores }, { on := 15, ground := Ground.textOnly Departure.lateStores }, { on := 16, ground := Ground.textOnly Departure.lateStores }, { on := 17, ground := Ground.textOnly Departure.lateStores }, { on := 18, ground := Ground.phase }], guard := none }) (v := ?_) rfl (by kernel_rfl) (by kernel_rfl) (by kernel_rfl) (fun _ _ _ h => h) (Or.inl ⟨by rfl, ?_⟩) (by assumption) ?_
    rotate_left
    · (intro w hSw; (try dsimp only at hSw); go_simp); (try with_reducible rfl)
    try simp only [Act.put, List.setIfInBounds_toArray, List.set_cons_zero, List.set_cons_succ]
    refine wpAnyH_take (i := 20) (oi := { dst := some 9, op := Op.assign (Operand.tmp 43), type := 3, pos := "top03_wt47d.go:24", after := #[{ on := 17, ground := Ground.data }, { on := 19, ground := Ground.chain }, { on := 0, ground := Ground.phase }, { on := 1, ground := Ground.phase }, { on := 2, ground := Ground.phase }, { on := 3, ground := Ground.phase }, { on := 4, ground := Ground.phase }, { on := 5, ground := Ground.phase }, { on := 6, ground := Ground.phase }, { on := 7, ground := Ground.phase }, { on := 8, ground := Ground.phase }, { on := 9, ground := Ground.phase }, { on := 10, ground := Ground.phase }, { on := 11, ground := Ground.phase }, { on := 12, ground := Ground.phase }, { on := 13, ground := Ground.phase }, { on := 14, ground := Ground.phase }, { on := 15, ground := Ground.phase }, { on := 16, ground := Ground.phase }, { on := 17, ground := Ground.phase }, { on := 18, ground := Ground.phase }, { on := 19, ground := Ground.phase }], guard := none }) (v := ?_) rfl (by kernel_rfl) (by kernel_rfl) (by kernel_rfl) (fun _ _ _ h => h) (Or.inl ⟨by rfl, ?_⟩) (by assumption) ?_
    rotate_left
    · (intro w hSw; (try dsimp only at hSw); go_simp); (try with_reducible rfl)
    try simp only [Act.put, List.setIfInBounds_toArray, List.set_cons_zero, List.set_cons_succ]
    refine wpAnyH_done (by kernel_rfl) ?_ _
    clear hHeld0
    (go_wp2_with fail; go_meet; exact ⟨cD a0, cP a1, cN a2, rfl, rfl, rfl, cD_bd _, cP_bd _, cN_bd _, rfl⟩)
  case rest =>
    obtain ⟨den, pole, num, rfl, rfl, rfl, hden, hpole, hnum, rfl⟩ := hcut
    have j0 := y.cell (j := 0) rfl
    have j1 := y.cell (j := 1) rfl
    clear k0 k1 k2 z
    go_upto_region 4 with fail
    obtain ⟨high, hhd⟩ : ∃ h, h = 1 + g0 % 12 + g1 % 8 := ⟨_, rfl⟩
    obtain ⟨low, hld⟩ : ∃ h, h = 1 + g0 % 12 := ⟨_, rfl⟩
    rw [← hhd, ← hld]
    have CPh : CP den pole num low high := ⟨hden, hpole, hnum, by omega, by omega⟩
    obtain ⟨hl1, hl2⟩ := CPh.hlow
    obtain ⟨hh1, hh2⟩ := CPh.hhigh
    obtain ⟨hd1, hd2⟩ := hden
    obtain ⟨hp1, hp2⟩ := hpole
    obtain ⟨hn1, hn2⟩ := hnum
    have HCP := Lib.hid CPh
    clear CPh hhd hld j0 j1 y hg0 hg1
    go_upto_region 6 with fail
    obtain ⟨v1, hv1⟩ : ∃ v, v = World.alloc W (Obj.cells #[.int .i64 low] 3) := ⟨_, rfl⟩
    have kv1 : Below W.heap.size W v1 := by rw [hv1]; exact below_new _ _
    have iv1 : Blk v1 (W.heap.size) 3 [.int .i64 low] := by rw [hv1]; exact Blk.new _ _ _
    have sv1 : v1.heap.size = W.heap.size + 1 := by rw [hv1]; simp
    rw [← hv1]
    clear hv1
    obtain ⟨v2, hv2⟩ : ∃ v, v = World.alloc v1 (Obj.cells #[.int .i64 (-pole), .int .i64 den] 3) := ⟨_, rfl⟩
    have kv2 : Below v1.heap.size v1 v2 := by rw [hv2]; exact below_new _ _
    have iv2 : Blk v2 (W.heap.size + 1) 3 [.int .i64 (-pole), .int .i64 den] := by rw [hv2, ← sv1]; exact Blk.new _ _ _
    have sv2 : v2.heap.size = W.heap.size + 1 + 1 := by rw [hv2]; simp [sv1]
    rw [← hv2]
    clear hv2
    obtain ⟨v3, hv3⟩ : ∃ v, v = World.alloc v2 (Obj.cells #[.int .i64 num] 3) := ⟨_, rfl⟩
    have kv3 : Below v2.heap.size v2 v3 := by rw [hv3]; exact below_new _ _
    have iv3 : Blk v3 (W.heap.size + 1 + 1) 3 [.int .i64 num] := by rw [hv3, ← sv2]; exact Blk.new _ _ _
    have sv3 : v3.heap.size = W.heap.size + 1 + 1 + 1 := by rw [hv3]; simp [sv2]
    rw [← hv3]
    clear hv3
    obtain ⟨v4, hv4⟩ : ∃ v, v = World.alloc v3 (Obj.cells #[.int .i64 1] 3) := ⟨_, rfl⟩
    have kv4 : Below v3.heap.size v3 v4 := by rw [hv4]; exact below_new _ _
    have iv4 : Blk v4 (W.heap.size + 1 + 1 + 1) 3 [.int .i64 1] := by rw [hv4, ← sv3]; exact Blk.new _ _ _
    have sv4 : v4.heap.size = W.heap.size + 1 + 1 + 1 + 1 := by rw [hv4]; simp [sv3]
    rw [← hv4]
    clear hv4
    obtain ⟨v5, hv5⟩ : ∃ v, v = World.alloc v4 (Obj.cells #[.slice (some ⟨W.heap.size, 0, none⟩) 1 1, .slice (some ⟨W.heap.size + 1, 0, none⟩) 2 2, .slice (some ⟨W.heap.size + 1 + 1, 0, none⟩) 1 1, .slice (some ⟨W.heap.size + 1 + 1 + 1, 0, none⟩) 1 1] 43) := ⟨_, rfl⟩
    have kv5 : Below v4.heap.size v4 v5 := by rw [hv5]; exact below_new _ _
    have iv5 : Blk v5 (W.heap.size + 1 + 1 + 1 + 1) 43 [.slice (some ⟨W.heap.size, 0, none⟩) 1 1, .slice (some ⟨W.heap.size + 1, 0, none⟩) 2 2, .slice (some ⟨W.heap.size + 1 + 1, 0, none⟩) 1 1, .slice (some ⟨W.heap.size + 1 + 1 + 1, 0, none⟩) 1 1] := by rw [hv5, ← sv4]; exact Blk.new _ _ _
    have sv5 : v5.heap.size = W.heap.size + 1 + 1 + 1 + 1 + 1 := by rw [hv5]; simp [sv4]
    rw [← hv5]
    clear hv5
    obtain ⟨v6, hv6⟩ : ∃ v, v = World.alloc v5 (Obj.cells #[.int .i64 low, .int .i64 high] 45) := ⟨_, rfl⟩
    have kv6 : Below v5.heap.size v5 v6 := by rw [hv6]; exact below_new _ _
    have iv6 : Blk v6 (W.heap.size + 1 + 1 + 1 + 1 + 1) 45 [.int .i64 low, .int .i64 high] := by rw [hv6, ← sv5]; exact Blk.new _ _ _
    have sv6 : v6.heap.size = W.heap.size + 1 + 1 + 1 + 1 + 1 + 1 := by rw [hv6]; simp [sv5]
    rw [← hv6]
    clear hv6
    have hV : Below w.heap.size w v6.drew := (bthen (bthen (bthen (bthen (bthen (bthen hbW kv1) kv2) kv3) kv4) kv5) kv6).drew
    have hIa : Ints v6.drew _ [low] := ((BlkI.ints (n := 1) (l := [low]) iv1 rfl).carry (bthen (bthen (bthen (bthen kv2 kv3) kv4) kv5) kv6)).drew
    have hIb : Ints v6.drew _ [-pole, den] := ((BlkI.ints (n := 2) (l := [-pole, den]) iv2 rfl).carry (bthen (bthen (bthen kv3 kv4) kv5) kv6)).drew
    have hIc : Ints v6.drew _ [num] := ((BlkI.ints (n := 1) (l := [num]) iv3 rfl).carry (bthen (bthen kv4 kv5) kv6)).drew
    have hId : Ints v6.drew _ [1] := ((BlkI.ints (n := 1) (l := [1]) iv4 rfl).carry (bthen kv5 kv6)).drew
    have hz : Blk v6.drew _ _ _ := (iv5.carry kv6).carry (Below.refl _ _).drew
    have hbx : Pairs v6.drew (.slice (some ⟨W.heap.size + 1 + 1 + 1 + 1 + 1, 0, none⟩) 1 1) [(low, high)] := by
      refine ⟨_, _, rfl, Nat.le_refl _, fun _ => ⟨_, _, rfl, fun j x hj => ?_⟩⟩
      match j, hj with
      | 0, hj => cases hj; exact ⟨iv6.cell (j := 0) rfl, iv6.cell (j := 1) rfl⟩
    clear kv1 kv2 kv3 kv4 kv5 kv6 iv1 iv2 iv3 iv4 iv5 iv6 sv1 sv2 sv3 sv4 sv5 sv6
    generalize v6.drew = V at hV hIa hIb hIc hId hz hbx ⊢
    have q0 := hz.cell (j := 0) rfl
    have q1 := hz.cell (j := 1) rfl
    have q2 := hz.cell (j := 2) rfl
    have q3 := hz.cell (j := 3) rfl
    go_wp2_with fail
    clear q0 q1 q2 q3
    refine (washerLoop_any _ _ _ _ [low] [-pole, den] [num] [1] V hIa hIb hIc hId (by simp) (by simp) (by simp) (by simp)).mono ?_
    rintro e w7 ⟨⟨ua, ub, uc, ud, rfl, hua, hub, huc, hud⟩, hb7⟩
    go_wp2_with fail
    have tc := Certify_any ua ub uc ud _ [low] [-pole, den] [num] [1] [(low, high)] w7 hua hub huc hud (hbx.carry hb7) (by simp) (by simp) (by simp) (by simp) (by simp)
    rw [HCP.out.box] at tc
    rcases HCP.out.cert with ⟨hr, hall⟩ | ⟨m, hr, hm1, hm2, hmf, hall⟩
    · as_aux_lemma =>
        rw [hr] at tc
        refine tc.mono ?_
        clear tc hr
        rintro e w8 ⟨⟨um, rfl, hum⟩, hb8⟩
        obtain ⟨uma, umc, rfl, _⟩ := hum
        have HALL := Lib.hid hall
        have hb78 := bthen hb7 hb8
        have hV8 := bthen hV hb78
        have hIb := hIb.carry hb78
        have hIc := hIc.carry hb78
        have hId := hId.carry hb78
        have hz := hz.carry hb78
        clear hall hb7 hb8 hb78 hua hub huc hud hIa hbx hV
        simp only [Option.isSome_none, Option.isSome_some, Option.getD_none, Option.getD_some, List.length_nil, List.length_cons, Nat.zero_add]
        go_wp2_with fail
        obtain ⟨first, hfd⟩ : ∃ f, f = 1 + vv % 200 := ⟨_, rfl⟩
        rw [← hfd]
        have hf1 : 1 ≤ first := by omega
        have hf2 : first ≤ 200 := by omega
        clear hfd hvv
        go_loopw [18] (fun g wr => ∃ gain : Int, g = .int .i64 gain ∧ low ≤ gain ∧ gain ≤ high + 1 ∧ Below w8.heap.size w8 wr) (fun g _ => (high + 1 - intOf g).toNat)
        case atStart => exact ⟨low, rfl, Int.le_refl _, by omega, Below.refl _ _⟩
        case round =>
          obtain ⟨gain, rfl, hga, hgb, hbr⟩ := hrel
          by_cases hle : gain ≤ high
          · have hff := HCP.out.fact (g := gain) ⟨hga, hle⟩
            obtain ⟨c, hcd⟩ : ∃ c, c = gain * num - pole := ⟨_, rfl⟩
            rw [← hcd] at hff
            have HC2 := Lib.hid hcd
            obtain ⟨f1, f2, f3, f4, f5, f6, f7⟩ := hff
            have hcl : closedR [gain] [-pole, den] [num] [1] = [c, den] := by rw [closedR, if_neg (by rw [f1]; simp), f2]
            obtain ⟨P, hP⟩ : ∃ P, P = gain * num := ⟨_, rfl⟩
            rw [← hP] at hcd
            have hw : IntKind.i64.wrap (gain * num) = P := by rw [← hP]; exact IntWalk.i64_in _ (by omega)
            have ht : (c != P - pole) = false := by rw [bne_eq_false_iff_eq]; exact hcd
            have hP1 : -100 ≤ P := by omega
            have hP2 : P ≤ 100 := by omega
            have HFC := Lib.hid hcd
            have HF1 := Lib.hid f1
            have HF3 := Lib.hid f3
            have HCL := Lib.hid hcl
            have z := hz.carry hbr
            have q0 := z.cell (j := 0) rfl
            have q1 := z.cell (j := 1) rfl
            have q2 := z.cell (j := 2) rfl
            have q3 := z.cell (j := 3) rfl
            clear f1 f2 f3 f4 f5 hcd hP hcl
            go_wp2_with fail
            obtain ⟨x1, hx1⟩ : ∃ v, v = World.alloc wr (Obj.cells #[.slice (some ⟨wr.heap.size + 1, 0, none⟩) 1 1, .slice (some ⟨W.heap.size + 1, 0, none⟩) 2 2, .slice (some ⟨W.heap.size + 1 + 1, 0, none⟩) 1 1, .slice (some ⟨W.heap.size + 1 + 1 + 1, 0, none⟩) 1 1] 43) := ⟨_, rfl⟩
            have kx1 : Below wr.heap.size wr x1 := by rw [hx1]; exact below_new _ _
            have ix1 : Blk x1 (wr.heap.size) 43 [.slice (some ⟨wr.heap.size + 1, 0, none⟩) 1 1, .slice (some ⟨W.heap.size + 1, 0, none⟩) 2 2, .slice (some ⟨W.heap.size + 1 + 1, 0, none⟩) 1 1, .slice (some ⟨W.heap.size + 1 + 1 + 1, 0, none⟩) 1 1] := by rw [hx1]; exact Blk.new _ _ _
            have sx1 : x1.heap.size = wr.heap.size + 1 := by rw [hx1]; simp
            rw [← hx1]
            clear hx1
            obtain ⟨x2, hx2⟩ : ∃ v, v = World.alloc x1 (Obj.cells #[.int .i64 gain] 3) := ⟨_, rfl⟩
            have kx2 : Below x1.heap.size x1 x2 := by rw [hx2]; exact below_new _ _
            have ix2 : Blk x2 (wr.heap.size + 1) 3 [.int .i64 gain] := by rw [hx2, ← sx1]; exact Blk.new _ _ _
            have sx2 : x2.heap.size = wr.heap.size + 1 + 1 := by rw [hx2]; simp [sx1]
            rw [← hx2]
            clear hx2
            clear q0 q1 q2 q3
            have hrx := bthen hbr (bthen kx1 kx2)
            have jg : Ints x2 _ [gain] := BlkI.ints (n := 1) (l := [gain]) ix2 rfl
            have zx := ix1.carry kx2
            have q0 := zx.cell (j := 0) rfl
            have q1 := zx.cell (j := 1) rfl
            have q2 := zx.cell (j := 2) rfl
            have q3 := zx.cell (j := 3) rfl
            clear kx1 kx2 ix1 ix2 sx1 sx2 z
            refine (washerLoop_any _ _ _ _ [gain] [-pole, den] [num] [1] x2 jg (hIb.carry hrx) (hIc.carry hrx) (hId.carry hrx) (by simp) (by simp) (by simp) (by simp)).mono ?_
            rintro e x3 ⟨⟨ua', ub', uc', ud', rfl, hua, hub, huc, hud⟩, hx3⟩
            have hrx3 := bthen hrx hx3
            go_wp2_with fail
            have tc := Closed_any ua' ub' uc' ud' [gain] [-pole, den] [num] [1] x3 hua hub huc hud (by simp) (by simp) (by simp) (by simp)
            rw [HF1.out, HCL.out] at tc
            refine tc.mono ?_
            rintro e x4 ⟨⟨uv, rfl, huv⟩, hx4⟩
            have hrx4 := bthen hrx3 hx4
            clear tc hua hub huc hud hrx hrx3 hx3 hx4 jg q0 q1 q2 q3 zx
            obtain ⟨cb, co, cc, rfl, hcc⟩ := (id huv).head (by simp)
            have c0 := hcc 0 (by simp)
            have c1 := hcc 1 (by simp)
            simp only [Nat.add_zero, List.getElem?_cons_zero, List.getElem?_cons_succ, Option.getD_some, List.length_cons, List.length_nil, Nat.zero_add, Nat.reduceAdd] at c0 c1 huv ⊢
            clear hcc
            obtain ⟨i0, hi, hz0, hz1, hz2⟩ := info_parts Try.infoInt
            go_wp2_with (at_builtin; refine wpList_append_fresh rfl (.tmp 147) (.tmp 148) 25 25 3 3 rfl i0 (.int .i64 0) Try.underlying25 Try.underlying25 hi hz0 hz1 hz2 x4.heap.size 0 rfl _ [c, den] rfl (huv.alloc _) (by simp) ?_; intro ba oa ca x5 hia hx5)
            obtain ⟨x6, hx6⟩ : ∃ v, v = World.alloc x5 (Obj.cells #[.int .i64 first] 3) := ⟨_, rfl⟩
            have kx6 : Below x5.heap.size x5 x6 := by rw [hx6]; exact below_new _ _
            have ix6 : Blk x6 (x5.heap.size) 3 [.int .i64 first] := by rw [hx6]; exact Blk.new _ _ _
            have sx6 : x6.heap.size = x5.heap.size + 1 := by rw [hx6]; simp
            rw [← hx6]
            clear hx6
            have hx4 := bthen (below_new x4 (.cells #[] 3)) hx5
            have hrx6 := bthen (bthen hrx4 hx4) kx6
            have huv6 := huv.carry (bthen hx4 kx6)
            have c0 := cellb c0 (bthen hx4 kx6)
            have ts := Stepped_any _ _ [c, den] [first] 4 x6 (hia.carry kx6) (BlkI.ints (n := 1) (l := [first]) ix6 rfl) (by simp) (by simp)
            clear hx4 hx5 kx6 ix6 sx6 hia huv c1 hrx4
            rcases stepped_or c den first ⟨f6, f7⟩ ⟨hf1, hf2⟩ HF3.out with ⟨hE, hR⟩ | hE
            · rw [hE, hR] at ts
              refine ts.mono ?_
              clear ts hE hR
              rintro e x7 ⟨⟨us, rfl, hus⟩, hx7⟩
              have hrx7 := bthen hrx6 hx7
              have c0 := cellb c0 hx7
              clear hx7 hrx6 huv6
              obtain ⟨sb, so, sc, rfl, hsc⟩ := (id hus).head (by simp [geo_length])
              rw [geo_length] at hsc ⊢
              have HS := Lib.hid (fun k hk => (geo_get first (-c) 5 k hk) ▸ hsc k hk)
              have s0 := hsc 0 (by omega)
              rw [Nat.add_zero, geo_get _ _ _ _ (by omega), Int.pow_zero, Int.mul_one] at s0
              clear hsc hus
              go_upto_region 19 with fail
              go_cut [24] from 155 to 164 (fun v24 wx => v24 = .bool (fallsC den c) ∧ wx = x7.drew)
              case first =>
               as_aux_lemma =>
                have hfi := falls_ite den c
                have hnc : IntKind.i64.wrap (-c) = -c := IntWalk.i64_in _ (by omega)
                refine wp_region_held_drew (S := (fun w' => w'.cell? ⟨cb, co, none⟩ = some (.int .i64 c))) (by kernel_rfl) ?_ (fun hHeld0 => ?_)
                · (try dsimp only); go_keep
                refine wpAnyH_take (i := 0) (oi := { dst := some 155, op := Op.move (Operand.tmp 20), type := 25, pos := "top03_wt47d.go:42", after := #[], guard := none }) (v := ?_) rfl (by kernel_rfl) (by kernel_rfl) (by kernel_rfl) (fun _ _ _ h => h) (Or.inl ⟨by rfl, ?_⟩) (by assumption) ?_
                rotate_left
                · (intro w hSw; (try dsimp only at hSw); go_simp); (try with_reducible rfl)
                try simp only [Act.put, List.setIfInBounds_toArray, List.set_cons_zero, List.set_cons_succ]
                refine wpAnyH_take (i := 1) (oi := { dst := some 156, op := Op.indexAddr 25 (Operand.tmp 155) (Operand.const (Value.int IntKind.i64 0)), type := 0, pos := "top03_wt47d.go:42", after := #[{ on := 0, ground := Ground.data }], guard := none }) (v := ?_) rfl (by kernel_rfl) (by kernel_rfl) (by kernel_rfl) (fun _ _ _ h => h) (Or.inl ⟨by rfl, ?_⟩) (by assumption) ?_
                rotate_left
                · (intro w hSw; (try dsimp only at hSw); go_simp); (try with_reducible rfl)
                try simp only [Act.put, List.setIfInBounds_toArray, List.set_cons_zero, List.set_cons_succ]
                refine wpAnyH_take (i := 2) (oi := { dst := some 157, op := Op.load 3 (Operand.tmp 156), type := 3, pos := "top03_wt47d.go:42", after := #[{ on := 1, ground := Ground.data }], guard := none }) (v := ?_) rfl (by kernel_rfl) (by kernel_rfl) (by kernel_rfl) (fun _ _ _ h => h) (Or.inl ⟨by rfl, ?_⟩) (by assumption) ?_
                rotate_left
                · (intro w hSw; (try dsimp only at hSw); go_simp); (try with_reducible rfl)
                try simp only [Act.put, List.setIfInBounds_toArray, List.set_cons_zero, List.set_cons_succ]
                refine wpAnyH_take (i := 3) (oi := { dst := some 158, op := Op.move (Operand.tmp 20), type := 25, pos := "top03_wt47d.go:42", after := #[], guard := none }) (v := ?_) rfl (by kernel_rfl) (by kernel_rfl) (by kernel_rfl) (fun _ _ _ h => h) (Or.inl ⟨by rfl, ?_⟩) (by assumption) ?_
                rotate_left
                · (intro w hSw; (try dsimp only at hSw); go_simp); (try with_reducible rfl)
                try simp only [Act.put, List.setIfInBounds_toArray, List.set_cons_zero, List.set_cons_succ]
                refine wpAnyH_take (i := 4) (oi := { dst := some 159, op := Op.indexAddr 25 (Operand.tmp 158) (Operand.const (Value.int IntKind.i64 0)), type := 0, pos := "top03_wt47d.go:42", after := #[{ on := 3, ground := Ground.data }], guard := none }) (v := ?_) rfl (by kernel_rfl) (by kernel_rfl) (by kernel_rfl) (fun _ _ _ h => h) (Or.inl ⟨by rfl, ?_⟩) (by assumption) ?_
                rotate_left
                · (intro w hSw; (try dsimp only at hSw); go_simp); (try with_reducible rfl)
                try simp only [Act.put, List.setIfInBounds_toArray, List.set_cons_zero, List.set_cons_succ]
                refine wpAnyH_take (i := 5) (oi := { dst := some 160, op := Op.load 3 (Operand.tmp 159), type := 3, pos := "top03_wt47d.go:42", after := #[{ on := 4, ground := Ground.data }], guard := none }) (v := ?_) rfl (by kernel_rfl) (by kernel_rfl) (by kernel_rfl) (fun _ _ _ h => h) (Or.inl ⟨by rfl, ?_⟩) (by assumption) ?_
                rotate_left
                · (intro w hSw; (try dsimp only at hSw); go_simp); (try with_reducible rfl)
                try simp only [Act.put, List.setIfInBounds_toArray, List.set_cons_zero, List.set_cons_succ]
                refine wpAnyH_take (i := 6) (oi := { dst := some 161, op := Op.unOp UnOp.neg 3 (Operand.tmp 160), type := 3, pos := "top03_wt47d.go:42", after := #[{ on := 5, ground := Ground.data }], guard := none }) (v := ?_) rfl (by kernel_rfl) (by kernel_rfl) (by kernel_rfl) (fun _ _ _ h => h) (Or.inl ⟨by rfl, ?_⟩) (by assumption) ?_
                rotate_left
                · (intro w hSw; (try dsimp only at hSw); go_simp); (try with_reducible rfl)
                try simp only [Act.put, List.setIfInBounds_toArray, List.set_cons_zero, List.set_cons_succ]
                refine wpAnyH_take (i := 7) (oi := { dst := some 162, op := Op.call { callee := Callee.builtin Builtin.max, args := #[Operand.tmp 157, Operand.tmp 161], argTypes := #[3, 3] }, type := 3, pos := "top03_wt47d.go:42", after := #[{ on := 2, ground := Ground.data }, { on := 6, ground := Ground.data }], guard := none }) (v := ?_) rfl (by kernel_rfl) (by kernel_rfl) (by kernel_rfl) (fun _ _ _ h => h) (Or.inl ⟨by rfl, ?_⟩) (by assumption) ?_
                rotate_left
                · (intro w hSw; (try dsimp only at hSw); go_simp); (try with_reducible rfl)
                try simp only [Act.put, List.setIfInBounds_toArray, List.set_cons_zero, List.set_cons_succ]
                refine wpAnyH_take (i := 8) (oi := { dst := some 163, op := Op.move (Operand.tmp 7), type := 3, pos := "top03_wt47d.go:42", after := #[], guard := none }) (v := ?_) rfl (by kernel_rfl) (by kernel_rfl) (by kernel_rfl) (fun _ _ _ h => h) (Or.inl ⟨by rfl, ?_⟩) (by assumption) ?_
                rotate_left
                · (intro w hSw; (try dsimp only at hSw); go_simp); (try with_reducible rfl)
                try simp only [Act.put, List.setIfInBounds_toArray, List.set_cons_zero, List.set_cons_succ]
                refine wpAnyH_take (i := 9) (oi := { dst := some 164, op := Op.binOp BinOp.lss 3 (Operand.tmp 162) (Operand.tmp 163) 3, type := 4, pos := "top03_wt47d.go:42", after := #[{ on := 7, ground := Ground.data }, { on := 8, ground := Ground.data }], guard := none }) (v := ?_) rfl (by kernel_rfl) (by kernel_rfl) (by kernel_rfl) (fun _ _ _ h => h) (Or.inl ⟨by rfl, ?_⟩) (by assumption) ?_
                rotate_left
                · (intro w hSw; (try dsimp only at hSw); go_simp); (try with_reducible rfl)
                try simp only [Act.put, List.setIfInBounds_toArray, List.set_cons_zero, List.set_cons_succ]
                refine wpAnyH_take (i := 10) (oi := { dst := some 24, op := Op.assign (Operand.tmp 164), type := 4, pos := "top03_wt47d.go:42", after := #[{ on := 9, ground := Ground.data }, { on := 0, ground := Ground.phase }, { on := 1, ground := Ground.phase }, { on := 2, ground := Ground.phase }, { on := 3, ground := Ground.phase }, { on := 4, ground := Ground.phase }, { on := 5, ground := Ground.phase }, { on := 6, ground := Ground.phase }, { on := 7, ground := Ground.phase }, { on := 8, ground := Ground.phase }, { on := 9, ground := Ground.phase }], guard := none }) (v := ?_) rfl (by kernel_rfl) (by kernel_rfl) (by kernel_rfl) (fun _ _ _ h => h) (Or.inl ⟨by rfl, ?_⟩) (by assumption) ?_
                rotate_left
                · (intro w hSw; (try dsimp only at hSw); go_simp); (try with_reducible rfl)
                try simp only [Act.put, List.setIfInBounds_toArray, List.set_cons_zero, List.set_cons_succ]
                refine wpAnyH_done (by kernel_rfl) ?_ _
                clear hHeld0
                (go_wp2_with fail; all_goals (go_meet; exact ⟨rfl, rfl⟩))
              case rest =>
                obtain ⟨rfl, rfl⟩ := hcut
                have hrx8 := hrx7.drew
                have s0 : x7.drew.cell? ⟨sb, so, none⟩ = some (.int .i64 first) := s0
                have HS : Hid (∀ k, k < 5 → x7.drew.cell? ⟨sb, so + k, none⟩ = some (.int .i64 (first * (-c) ^ k))) := HS
                have c0 : x7.drew.cell? ⟨cb, co, none⟩ = some (.int .i64 c) := c0
                generalize x7.drew = x8 at hrx8 s0 HS c0 ⊢
                clear hrx7
                go_wp2_with fail
                clear s0
                go_loopw [25] (fun tv wr2 => ∃ k : Nat, tv = .int .i64 k ∧ 1 ≤ k ∧ k ≤ 5 ∧ Below x8.heap.size x8 wr2) (fun tv _ => 5 - (intOf tv).toNat)
                case atStart => exact ⟨1, rfl, by omega, by omega, Below.refl _ _⟩
                case round =>
                  obtain ⟨k, rfl, hk1, hk5, hb2⟩ := hrel
                  by_cases hlt : k < 5
                  · have sy := cellb (HS.out k hlt) hb2
                    have sx := cellb (HS.out (k - 1) (by omega)) hb2
                    have c0 := cellb c0 hb2
                    obtain ⟨x, y, ey, ex, hyx, hx0c, e8, e9, e10, e1, e2, hst⟩ := geo_pair c den first ⟨f6, f7⟩ ⟨hd1, hd2⟩ ⟨hf1, hf2⟩ k hk1 hlt
                    rw [ey] at sy
                    rw [ex] at sx
                    have HYX := Lib.hid hyx
                    have HX0 := Lib.hid hx0c
                    have HST := Lib.hid hst
                    clear hyx ey ex hx0c hst
                    have e3 : IntKind.i64.wrap ((k : Int) - 1) = (k : Int) - 1 := IntWalk.i64_in _ (by omega)
                    have e4 : ((k : Int) - 1).toNat = k - 1 := by omega
                    have e5 : (k : Int) < 5 := by omega
                    have e6 : (1 : Int) ≤ (k : Int) := by omega
                    have e7 : (k : Int) - 1 < 5 := by omega
                    clear HS
                    go_upto_region 26 with fail
                    go_cut [232] from 181 to 231 (fun v232 wx => v232 = .bool false ∧ wx = wr.drew)
                    case first =>
                      by_cases hx0 : x = 0
                      · as_aux_lemma =>
                        have hc0 := HX0.out hx0
                        have hy0 : y = 0 := by rw [HYX.out, hx0]; simp
                        have hft : fallsC den 0 = true := by unfold fallsC; simp; omega
                        subst hx0 hc0 hy0
                        have d0 : (0 : Int) < den := by omega
                        have hw0 : IntKind.i64.wrap 0 = 0 := by decide
                        clear e1 e2 e8 e9 e10 HST HYX HX0
                        refine wp_region_held_drew (S := (fun w' => w'.cell? ⟨cb, co, none⟩ = some (.int .i64 0) ∧ w'.cell? ⟨sb, so + k, none⟩ = some (.int .i64 0) ∧ w'.cell? ⟨sb, so + (k - 1), none⟩ = some (.int .i64 0))) (by kernel_rfl) ?_ (fun hHeld0 => ?_)
                        · (try dsimp only); go_keep
                        refine wpAnyH_take (i := 0) (oi := { dst := some 181, op := Op.move (Operand.tmp 22), type := 24, pos := "top03_wt47d.go:48", after := #[], guard := none }) (v := ?_) rfl (by kernel_rfl) (by kernel_rfl) (by kernel_rfl) (fun _ _ _ h => h) (Or.inl ⟨by rfl, ?_⟩) (by assumption) ?_
                        rotate_left
                        · (intro w hSw; (try dsimp only at hSw); go_simp); (try with_reducible rfl)
                        try simp only [Act.put, List.setIfInBounds_toArray, List.set_cons_zero, List.set_cons_succ]
                        refine wpAnyH_take (i := 1) (oi := { dst := some 182, op := Op.move (Operand.tmp 25), type := 3, pos := "top03_wt47d.go:48", after := #[], guard := none }) (v := ?_) rfl (by kernel_rfl) (by kernel_rfl) (by kernel_rfl) (fun _ _ _ h => h) (Or.inl ⟨by rfl, ?_⟩) (by assumption) ?_
                        rotate_left
                        · (intro w hSw; (try dsimp only at hSw); go_simp); (try with_reducible rfl)
                        try simp only [Act.put, List.setIfInBounds_toArray, List.set_cons_zero, List.set_cons_succ]
                        refine wpAnyH_take (i := 2) (oi := { dst := some 183, op := Op.indexAddr 24 (Operand.tmp 181) (Operand.tmp 182), type := 0, pos := "top03_wt47d.go:48", after := #[{ on := 0, ground := Ground.data }, { on := 1, ground := Ground.data }], guard := none }) (v := ?_) rfl (by kernel_rfl) (by kernel_rfl) (by kernel_rfl) (fun _ _ _ h => h) (Or.inl ⟨by rfl, ?_⟩) (by assumption) ?_
                        rotate_left
                        · (intro w hSw; (try dsimp only at hSw); go_simp); (try with_reducible rfl)
                        try simp only [Act.put, List.setIfInBounds_toArray, List.set_cons_zero, List.set_cons_succ]
                        refine wpAnyH_take (i := 3) (oi := { dst := some 184, op := Op.load 3 (Operand.tmp 183), type := 3, pos := "top03_wt47d.go:48", after := #[{ on := 2, ground := Ground.data }], guard := none }) (v := ?_) rfl (by kernel_rfl) (by kernel_rfl) (by kernel_rfl) (fun _ _ _ h => h) (Or.inl ⟨by rfl, ?_⟩) (by assumption) ?_
                        rotate_left
                        · (intro w hSw; (try dsimp only at hSw); go_simp); (try with_reducible rfl)
                        try simp only [Act.put, List.setIfInBounds_toArray, List.set_cons_zero, List.set_cons_succ]
                        refine wpAnyH_take (i := 4) (oi := { dst := some 185, op := Op.move (Operand.tmp 20), type := 25, pos := "top03_wt47d.go:48", after := #[], guard := none }) (v := ?_) rfl (by kernel_rfl) (by kernel_rfl) (by kernel_rfl) (fun _ _ _ h => h) (Or.inl ⟨by rfl, ?_⟩) (by assumption) ?_
                        rotate_left
                        · (intro w hSw; (try dsimp only at hSw); go_simp); (try with_reducible rfl)
                        try simp only [Act.put, List.setIfInBounds_toArray, List.set_cons_zero, List.set_cons_succ]
                        refine wpAnyH_take (i := 5) (oi := { dst := some 186, op := Op.indexAddr 25 (Operand.tmp 185) (Operand.const (Value.int IntKind.i64 0)), type := 0, pos := "top03_wt47d.go:48", after := #[{ on := 4, ground := Ground.data }], guard := none }) (v := ?_) rfl (by kernel_rfl) (by kernel_rfl) (by kernel_rfl) (fun _ _ _ h => h) (Or.inl ⟨by rfl, ?_⟩) (by assumption) ?_
                        rotate_left
                        · (intro w hSw; (try dsimp only at hSw); go_simp); (try with_reducible rfl)
                        try simp only [Act.put, List.setIfInBounds_toArray, List.set_cons_zero, List.set_cons_succ]
                        refine wpAnyH_take (i := 6) (oi := { dst := some 187, op := Op.load 3 (Operand.tmp 186), type := 3, pos := "top03_wt47d.go:48", after := #[{ on := 5, ground := Ground.data }], guard := none }) (v := ?_) rfl (by kernel_rfl) (by kernel_rfl) (by kernel_rfl) (fun _ _ _ h => h) (Or.inl ⟨by rfl, ?_⟩) (by assumption) ?_
                        rotate_left
                        · (intro w hSw; (try dsimp only at hSw); go_simp); (try with_reducible rfl)
                        try simp only [Act.put, List.setIfInBounds_toArray, List.set_cons_zero, List.set_cons_succ]
                        refine wpAnyH_take (i := 7) (oi := { dst := some 188, op := Op.unOp UnOp.neg 3 (Operand.tmp 187), type := 3, pos := "top03_wt47d.go:48", after := #[{ on := 6, ground := Ground.data }], guard := none }) (v := ?_) rfl (by kernel_rfl) (by kernel_rfl) (by kernel_rfl) (fun _ _ _ h => h) (Or.inl ⟨by rfl, ?_⟩) (by assumption) ?_
                        rotate_left
                        · (intro w hSw; (try dsimp only at hSw); go_simp); (try with_reducible rfl)
                        try simp only [Act.put, List.setIfInBounds_toArray, List.set_cons_zero, List.set_cons_succ]
                        refine wpAnyH_take (i := 8) (oi := { dst := some 189, op := Op.move (Operand.tmp 22), type := 24, pos := "top03_wt47d.go:48", after := #[], guard := none }) (v := ?_) rfl (by kernel_rfl) (by kernel_rfl) (by kernel_rfl) (fun _ _ _ h => h) (Or.inl ⟨by rfl, ?_⟩) (by assumption) ?_
                        rotate_left
                        · (intro w hSw; (try dsimp only at hSw); go_simp); (try with_reducible rfl)
                        try simp only [Act.put, List.setIfInBounds_toArray, List.set_cons_zero, List.set_cons_succ]
                        refine wpAnyH_take (i := 9) (oi := { dst := some 190, op := Op.move (Operand.tmp 25), type := 3, pos := "top03_wt47d.go:48", after := #[], guard := none }) (v := ?_) rfl (by kernel_rfl) (by kernel_rfl) (by kernel_rfl) (fun _ _ _ h => h) (Or.inl ⟨by rfl, ?_⟩) (by assumption) ?_
                        rotate_left
                        · (intro w hSw; (try dsimp only at hSw); go_simp); (try with_reducible rfl)
                        try simp only [Act.put, List.setIfInBounds_toArray, List.set_cons_zero, List.set_cons_succ]
                        refine wpAnyH_take (i := 10) (oi := { dst := some 191, op := Op.binOp BinOp.sub 3 (Operand.tmp 190) (Operand.const (Value.int IntKind.i64 1)) 3, type := 3, pos := "top03_wt47d.go:48", after := #[{ on := 9, ground := Ground.data }], guard := none }) (v := ?_) rfl (by kernel_rfl) (by kernel_rfl) (by kernel_rfl) (fun _ _ _ h => h) (Or.inl ⟨by rfl, ?_⟩) (by assumption) ?_
                        rotate_left
                        · (intro w hSw; (try dsimp only at hSw); go_simp); (try with_reducible rfl)
                        try simp only [Act.put, List.setIfInBounds_toArray, List.set_cons_zero, List.set_cons_succ]
                        refine wpAnyH_take (i := 11) (oi := { dst := some 192, op := Op.indexAddr 24 (Operand.tmp 189) (Operand.tmp 191), type := 0, pos := "top03_wt47d.go:48", after := #[{ on := 8, ground := Ground.data }, { on := 10, ground := Ground.data }], guard := none }) (v := ?_) rfl (by kernel_rfl) (by kernel_rfl) (by kernel_rfl) (fun _ _ _ h => h) (Or.inl ⟨by rfl, ?_⟩) (by assumption) ?_
                        rotate_left
                        · (intro w hSw; (try dsimp only at hSw); go_simp); (try with_reducible rfl)
                        try simp only [Act.put, List.setIfInBounds_toArray, List.set_cons_zero, List.set_cons_succ]
                        refine wpAnyH_take (i := 12) (oi := { dst := some 193, op := Op.load 3 (Operand.tmp 192), type := 3, pos := "top03_wt47d.go:48", after := #[{ on := 11, ground := Ground.data }], guard := none }) (v := ?_) rfl (by kernel_rfl) (by kernel_rfl) (by kernel_rfl) (fun _ _ _ h => h) (Or.inl ⟨by rfl, ?_⟩) (by assumption) ?_
                        rotate_left
                        · (intro w hSw; (try dsimp only at hSw); go_simp); (try with_reducible rfl)
                        try simp only [Act.put, List.setIfInBounds_toArray, List.set_cons_zero, List.set_cons_succ]
                        refine wpAnyH_take (i := 13) (oi := { dst := some 194, op := Op.binOp BinOp.mul 3 (Operand.tmp 188) (Operand.tmp 193) 3, type := 3, pos := "top03_wt47d.go:48", after := #[{ on := 7, ground := Ground.data }, { on := 12, ground := Ground.data }], guard := none }) (v := ?_) rfl (by kernel_rfl) (by kernel_rfl) (by kernel_rfl) (fun _ _ _ h => h) (Or.inl ⟨by rfl, ?_⟩) (by assumption) ?_
                        rotate_left
                        · (intro w hSw; (try dsimp only at hSw); go_simp); (try with_reducible rfl)
                        try simp only [Act.put, List.setIfInBounds_toArray, List.set_cons_zero, List.set_cons_succ]
                        refine wpAnyH_take (i := 14) (oi := { dst := some 195, op := Op.binOp BinOp.neq 3 (Operand.tmp 184) (Operand.tmp 194) 3, type := 4, pos := "top03_wt47d.go:48", after := #[{ on := 3, ground := Ground.data }, { on := 13, ground := Ground.data }], guard := none }) (v := ?_) rfl (by kernel_rfl) (by kernel_rfl) (by kernel_rfl) (fun _ _ _ h => h) (Or.inl ⟨by rfl, ?_⟩) (by assumption) ?_
                        rotate_left
                        · (intro w hSw; (try dsimp only at hSw); go_simp); (try with_reducible rfl)
                        try simp only [Act.put, List.setIfInBounds_toArray, List.set_cons_zero, List.set_cons_succ]
                        refine wpAnyH_take (i := 15) (oi := { dst := some 196, op := Op.move (Operand.tmp 195), type := 4, pos := "top03_wt47d.go:48", after := #[{ on := 14, ground := Ground.data }], guard := none }) (v := ?_) rfl (by kernel_rfl) (by kernel_rfl) (by kernel_rfl) (fun _ _ _ h => h) (Or.inl ⟨by rfl, ?_⟩) (by assumption) ?_
                        rotate_left
                        · (intro w hSw; (try dsimp only at hSw); go_simp); (try with_reducible rfl)
                        try simp only [Act.put, List.setIfInBounds_toArray, List.set_cons_zero, List.set_cons_succ]
                        refine wpAnyH_take (i := 16) (oi := { dst := some 197, op := Op.move (Operand.tmp 24), type := 4, pos := "top03_wt47d.go:48", after := #[{ on := 15, ground := Ground.guard }], guard := some (15, false) }) (v := ?_) rfl (by kernel_rfl) (by kernel_rfl) (by kernel_rfl) (fun _ _ _ h => h) (Or.inl ⟨by rfl, ?_⟩) (by assumption) ?_
                        rotate_left
                        · (intro w hSw; (try dsimp only at hSw); go_simp); (try with_reducible rfl)
                        try simp only [Act.put, List.setIfInBounds_toArray, List.set_cons_zero, List.set_cons_succ]
                        refine wpAnyH_take (i := 17) (oi := { dst := some 198, op := Op.move (Operand.tmp 22), type := 24, pos := "top03_wt47d.go:48", after := #[{ on := 15, ground := Ground.guard }], guard := some (15, false) }) (v := ?_) rfl (by kernel_rfl) (by kernel_rfl) (by kernel_rfl) (fun _ _ _ h => h) (Or.inl ⟨by rfl, ?_⟩) (by assumption) ?_
                        rotate_left
                        · (intro w hSw; (try dsimp only at hSw); go_simp); (try with_reducible rfl)
                        try simp only [Act.put, List.setIfInBounds_toArray, List.set_cons_zero, List.set_cons_succ]
                        refine wpAnyH_take (i := 18) (oi := { dst := some 199, op := Op.move (Operand.tmp 25), type := 3, pos := "top03_wt47d.go:48", after := #[{ on := 15, ground := Ground.guard }], guard := some (15, false) }) (v := ?_) rfl (by kernel_rfl) (by kernel_rfl) (by kernel_rfl) (fun _ _ _ h => h) (Or.inl ⟨by rfl, ?_⟩) (by assumption) ?_
                        rotate_left
                        · (intro w hSw; (try dsimp only at hSw); go_simp); (try with_reducible rfl)
                        try simp only [Act.put, List.setIfInBounds_toArray, List.set_cons_zero, List.set_cons_succ]
                        refine wpAnyH_take (i := 19) (oi := { dst := some 200, op := Op.indexAddr 24 (Operand.tmp 198) (Operand.tmp 199), type := 0, pos := "top03_wt47d.go:48", after := #[{ on := 17, ground := Ground.data }, { on := 18, ground := Ground.data }, { on := 15, ground := Ground.guard }], guard := some (15, false) }) (v := ?_) rfl (by kernel_rfl) (by kernel_rfl) (by kernel_rfl) (fun _ _ _ h => h) (Or.inl ⟨by rfl, ?_⟩) (by assumption) ?_
                        rotate_left
                        · (intro w hSw; (try dsimp only at hSw); go_simp); (try with_reducible rfl)
                        try simp only [Act.put, List.setIfInBounds_toArray, List.set_cons_zero, List.set_cons_succ]
                        refine wpAnyH_take (i := 20) (oi := { dst := some 201, op := Op.load 3 (Operand.tmp 200), type := 3, pos := "top03_wt47d.go:48", after := #[{ on := 19, ground := Ground.data }, { on := 15, ground := Ground.guard }], guard := some (15, false) }) (v := ?_) rfl (by kernel_rfl) (by kernel_rfl) (by kernel_rfl) (fun _ _ _ h => h) (Or.inl ⟨by rfl, ?_⟩) (by assumption) ?_
                        rotate_left
                        · (intro w hSw; (try dsimp only at hSw); go_simp); (try with_reducible rfl)
                        try simp only [Act.put, List.setIfInBounds_toArray, List.set_cons_zero, List.set_cons_succ]
                        refine wpAnyH_take (i := 21) (oi := { dst := some 202, op := Op.move (Operand.tmp 22), type := 24, pos := "top03_wt47d.go:48", after := #[{ on := 15, ground := Ground.guard }], guard := some (15, false) }) (v := ?_) rfl (by kernel_rfl) (by kernel_rfl) (by kernel_rfl) (fun _ _ _ h => h) (Or.inl ⟨by rfl, ?_⟩) (by assumption) ?_
                        rotate_left
                        · (intro w hSw; (try dsimp only at hSw); go_simp); (try with_reducible rfl)
                        try simp only [Act.put, List.setIfInBounds_toArray, List.set_cons_zero, List.set_cons_succ]
                        refine wpAnyH_take (i := 22) (oi := { dst := some 203, op := Op.move (Operand.tmp 25), type := 3, pos := "top03_wt47d.go:48", after := #[{ on := 15, ground := Ground.guard }], guard := some (15, false) }) (v := ?_) rfl (by kernel_rfl) (by kernel_rfl) (by kernel_rfl) (fun _ _ _ h => h) (Or.inl ⟨by rfl, ?_⟩) (by assumption) ?_
                        rotate_left
                        · (intro w hSw; (try dsimp only at hSw); go_simp); (try with_reducible rfl)
                        try simp only [Act.put, List.setIfInBounds_toArray, List.set_cons_zero, List.set_cons_succ]
                        refine wpAnyH_take (i := 23) (oi := { dst := some 204, op := Op.indexAddr 24 (Operand.tmp 202) (Operand.tmp 203), type := 0, pos := "top03_wt47d.go:48", after := #[{ on := 21, ground := Ground.data }, { on := 22, ground := Ground.data }, { on := 15, ground := Ground.guard }], guard := some (15, false) }) (v := ?_) rfl (by kernel_rfl) (by kernel_rfl) (by kernel_rfl) (fun _ _ _ h => h) (Or.inl ⟨by rfl, ?_⟩) (by assumption) ?_
                        rotate_left
                        · (intro w hSw; (try dsimp only at hSw); go_simp); (try with_reducible rfl)
                        try simp only [Act.put, List.setIfInBounds_toArray, List.set_cons_zero, List.set_cons_succ]
                        refine wpAnyH_take (i := 24) (oi := { dst := some 205, op := Op.load 3 (Operand.tmp 204), type := 3, pos := "top03_wt47d.go:48", after := #[{ on := 23, ground := Ground.data }, { on := 15, ground := Ground.guard }], guard := some (15, false) }) (v := ?_) rfl (by kernel_rfl) (by kernel_rfl) (by kernel_rfl) (fun _ _ _ h => h) (Or.inl ⟨by rfl, ?_⟩) (by assumption) ?_
                        rotate_left
                        · (intro w hSw; (try dsimp only at hSw); go_simp); (try with_reducible rfl)
                        try simp only [Act.put, List.setIfInBounds_toArray, List.set_cons_zero, List.set_cons_succ]
                        refine wpAnyH_take (i := 25) (oi := { dst := some 206, op := Op.unOp UnOp.neg 3 (Operand.tmp 205), type := 3, pos := "top03_wt47d.go:48", after := #[{ on := 24, ground := Ground.data }, { on := 15, ground := Ground.guard }], guard := some (15, false) }) (v := ?_) rfl (by kernel_rfl) (by kernel_rfl) (by kernel_rfl) (fun _ _ _ h => h) (Or.inl ⟨by rfl, ?_⟩) (by assumption) ?_
                        rotate_left
                        · (intro w hSw; (try dsimp only at hSw); go_simp); (try with_reducible rfl)
                        try simp only [Act.put, List.setIfInBounds_toArray, List.set_cons_zero, List.set_cons_succ]
                        refine wpAnyH_take (i := 26) (oi := { dst := some 207, op := Op.call { callee := Callee.builtin Builtin.max, args := #[Operand.tmp 201, Operand.tmp 206], argTypes := #[3, 3] }, type := 3, pos := "top03_wt47d.go:48", after := #[{ on := 20, ground := Ground.data }, { on := 25, ground := Ground.data }, { on := 15, ground := Ground.guard }], guard := some (15, false) }) (v := ?_) rfl (by kernel_rfl) (by kernel_rfl) (by kernel_rfl) (fun _ _ _ h => h) (Or.inl ⟨by rfl, ?_⟩) (by assumption) ?_
                        rotate_left
                        · (intro w hSw; (try dsimp only at hSw); go_simp); (try with_reducible rfl)
                        try simp only [Act.put, List.setIfInBounds_toArray, List.set_cons_zero, List.set_cons_succ]
                        refine wpAnyH_take (i := 27) (oi := { dst := some 208, op := Op.move (Operand.tmp 7), type := 3, pos := "top03_wt47d.go:48", after := #[{ on := 15, ground := Ground.guard }], guard := some (15, false) }) (v := ?_) rfl (by kernel_rfl) (by kernel_rfl) (by kernel_rfl) (fun _ _ _ h => h) (Or.inl ⟨by rfl, ?_⟩) (by assumption) ?_
                        rotate_left
                        · (intro w hSw; (try dsimp only at hSw); go_simp); (try with_reducible rfl)
                        try simp only [Act.put, List.setIfInBounds_toArray, List.set_cons_zero, List.set_cons_succ]
                        refine wpAnyH_take (i := 28) (oi := { dst := some 209, op := Op.move (Operand.tmp 22), type := 24, pos := "top03_wt47d.go:48", after := #[{ on := 15, ground := Ground.guard }], guard := some (15, false) }) (v := ?_) rfl (by kernel_rfl) (by kernel_rfl) (by kernel_rfl) (fun _ _ _ h => h) (Or.inl ⟨by rfl, ?_⟩) (by assumption) ?_
                        rotate_left
                        · (intro w hSw; (try dsimp only at hSw); go_simp); (try with_reducible rfl)
                        try simp only [Act.put, List.setIfInBounds_toArray, List.set_cons_zero, List.set_cons_succ]
                        refine wpAnyH_take (i := 29) (oi := { dst := some 210, op := Op.move (Operand.tmp 25), type := 3, pos := "top03_wt47d.go:48", after := #[{ on := 15, ground := Ground.guard }], guard := some (15, false) }) (v := ?_) rfl (by kernel_rfl) (by kernel_rfl) (by kernel_rfl) (fun _ _ _ h => h) (Or.inl ⟨by rfl, ?_⟩) (by assumption) ?_
                        rotate_left
                        · (intro w hSw; (try dsimp only at hSw); go_simp); (try with_reducible rfl)
                        try simp only [Act.put, List.setIfInBounds_toArray, List.set_cons_zero, List.set_cons_succ]
                        refine wpAnyH_take (i := 30) (oi := { dst := some 211, op := Op.binOp BinOp.sub 3 (Operand.tmp 210) (Operand.const (Value.int IntKind.i64 1)) 3, type := 3, pos := "top03_wt47d.go:48", after := #[{ on := 29, ground := Ground.data }, { on := 15, ground := Ground.guard }], guard := some (15, false) }) (v := ?_) rfl (by kernel_rfl) (by kernel_rfl) (by kernel_rfl) (fun _ _ _ h => h) (Or.inl ⟨by rfl, ?_⟩) (by assumption) ?_
                        rotate_left
                        · (intro w hSw; (try dsimp only at hSw); go_simp); (try with_reducible rfl)
                        try simp only [Act.put, List.setIfInBounds_toArray, List.set_cons_zero, List.set_cons_succ]
                        refine wpAnyH_take (i := 31) (oi := { dst := some 212, op := Op.indexAddr 24 (Operand.tmp 209) (Operand.tmp 211), type := 0, pos := "top03_wt47d.go:48", after := #[{ on := 28, ground := Ground.data }, { on := 30, ground := Ground.data }, { on := 15, ground := Ground.guard }], guard := some (15, false) }) (v := ?_) rfl (by kernel_rfl) (by kernel_rfl) (by kernel_rfl) (fun _ _ _ h => h) (Or.inl ⟨by rfl, ?_⟩) (by assumption) ?_
                        rotate_left
                        · (intro w hSw; (try dsimp only at hSw); go_simp); (try with_reducible rfl)
                        try simp only [Act.put, List.setIfInBounds_toArray, List.set_cons_zero, List.set_cons_succ]
                        refine wpAnyH_take (i := 32) (oi := { dst := some 213, op := Op.load 3 (Operand.tmp 212), type := 3, pos := "top03_wt47d.go:48", after := #[{ on := 31, ground := Ground.data }, { on := 15, ground := Ground.guard }], guard := some (15, false) }) (v := ?_) rfl (by kernel_rfl) (by kernel_rfl) (by kernel_rfl) (fun _ _ _ h => h) (Or.inl ⟨by rfl, ?_⟩) (by assumption) ?_
                        rotate_left
                        · (intro w hSw; (try dsimp only at hSw); go_simp); (try with_reducible rfl)
                        try simp only [Act.put, List.setIfInBounds_toArray, List.set_cons_zero, List.set_cons_succ]
                        refine wpAnyH_take (i := 33) (oi := { dst := some 214, op := Op.move (Operand.tmp 22), type := 24, pos := "top03_wt47d.go:48", after := #[{ on := 15, ground := Ground.guard }], guard := some (15, false) }) (v := ?_) rfl (by kernel_rfl) (by kernel_rfl) (by kernel_rfl) (fun _ _ _ h => h) (Or.inl ⟨by rfl, ?_⟩) (by assumption) ?_
                        rotate_left
                        · (intro w hSw; (try dsimp only at hSw); go_simp); (try with_reducible rfl)
                        try simp only [Act.put, List.setIfInBounds_toArray, List.set_cons_zero, List.set_cons_succ]
                        refine wpAnyH_take (i := 34) (oi := { dst := some 215, op := Op.move (Operand.tmp 25), type := 3, pos := "top03_wt47d.go:48", after := #[{ on := 15, ground := Ground.guard }], guard := some (15, false) }) (v := ?_) rfl (by kernel_rfl) (by kernel_rfl) (by kernel_rfl) (fun _ _ _ h => h) (Or.inl ⟨by rfl, ?_⟩) (by assumption) ?_
                        rotate_left
                        · (intro w hSw; (try dsimp only at hSw); go_simp); (try with_reducible rfl)
                        try simp only [Act.put, List.setIfInBounds_toArray, List.set_cons_zero, List.set_cons_succ]
                        refine wpAnyH_take (i := 35) (oi := { dst := some 216, op := Op.binOp BinOp.sub 3 (Operand.tmp 215) (Operand.const (Value.int IntKind.i64 1)) 3, type := 3, pos := "top03_wt47d.go:48", after := #[{ on := 34, ground := Ground.data }, { on := 15, ground := Ground.guard }], guard := some (15, false) }) (v := ?_) rfl (by kernel_rfl) (by kernel_rfl) (by kernel_rfl) (fun _ _ _ h => h) (Or.inl ⟨by rfl, ?_⟩) (by assumption) ?_
                        rotate_left
                        · (intro w hSw; (try dsimp only at hSw); go_simp); (try with_reducible rfl)
                        try simp only [Act.put, List.setIfInBounds_toArray, List.set_cons_zero, List.set_cons_succ]
                        refine wpAnyH_take (i := 36) (oi := { dst := some 217, op := Op.indexAddr 24 (Operand.tmp 214) (Operand.tmp 216), type := 0, pos := "top03_wt47d.go:48", after := #[{ on := 33, ground := Ground.data }, { on := 35, ground := Ground.data }, { on := 15, ground := Ground.guard }], guard := some (15, false) }) (v := ?_) rfl (by kernel_rfl) (by kernel_rfl) (by kernel_rfl) (fun _ _ _ h => h) (Or.inl ⟨by rfl, ?_⟩) (by assumption) ?_
                        rotate_left
                        · (intro w hSw; (try dsimp only at hSw); go_simp); (try with_reducible rfl)
                        try simp only [Act.put, List.setIfInBounds_toArray, List.set_cons_zero, List.set_cons_succ]
                        refine wpAnyH_take (i := 37) (oi := { dst := some 218, op := Op.load 3 (Operand.tmp 217), type := 3, pos := "top03_wt47d.go:48", after := #[{ on := 36, ground := Ground.data }, { on := 15, ground := Ground.guard }], guard := some (15, false) }) (v := ?_) rfl (by kernel_rfl) (by kernel_rfl) (by kernel_rfl) (fun _ _ _ h => h) (Or.inl ⟨by rfl, ?_⟩) (by assumption) ?_
                        rotate_left
                        · (intro w hSw; (try dsimp only at hSw); go_simp); (try with_reducible rfl)
                        try simp only [Act.put, List.setIfInBounds_toArray, List.set_cons_zero, List.set_cons_succ]
                        refine wpAnyH_take (i := 38) (oi := { dst := some 219, op := Op.unOp UnOp.neg 3 (Operand.tmp 218), type := 3, pos := "top03_wt47d.go:48", after := #[{ on := 37, ground := Ground.data }, { on := 15, ground := Ground.guard }], guard := some (15, false) }) (v := ?_) rfl (by kernel_rfl) (by kernel_rfl) (by kernel_rfl) (fun _ _ _ h => h) (Or.inl ⟨by rfl, ?_⟩) (by assumption) ?_
                        rotate_left
                        · (intro w hSw; (try dsimp only at hSw); go_simp); (try with_reducible rfl)
                        try simp only [Act.put, List.setIfInBounds_toArray, List.set_cons_zero, List.set_cons_succ]
                        refine wpAnyH_take (i := 39) (oi := { dst := some 220, op := Op.call { callee := Callee.builtin Builtin.max, args := #[Operand.tmp 213, Operand.tmp 219], argTypes := #[3, 3] }, type := 3, pos := "top03_wt47d.go:48", after := #[{ on := 32, ground := Ground.data }, { on := 38, ground := Ground.data }, { on := 15, ground := Ground.guard }], guard := some (15, false) }) (v := ?_) rfl (by kernel_rfl) (by kernel_rfl) (by kernel_rfl) (fun _ _ _ h => h) (Or.inl ⟨by rfl, ?_⟩) (by assumption) ?_
                        rotate_left
                        · (intro w hSw; (try dsimp only at hSw); go_simp); (try with_reducible rfl)
                        try simp only [Act.put, List.setIfInBounds_toArray, List.set_cons_zero, List.set_cons_succ]
                        refine wpAnyH_take (i := 40) (oi := { dst := some 221, op := Op.binOp BinOp.mul 3 (Operand.tmp 208) (Operand.tmp 220) 3, type := 3, pos := "top03_wt47d.go:48", after := #[{ on := 27, ground := Ground.data }, { on := 39, ground := Ground.data }, { on := 15, ground := Ground.guard }], guard := some (15, false) }) (v := ?_) rfl (by kernel_rfl) (by kernel_rfl) (by kernel_rfl) (fun _ _ _ h => h) (Or.inl ⟨by rfl, ?_⟩) (by assumption) ?_
                        rotate_left
                        · (intro w hSw; (try dsimp only at hSw); go_simp); (try with_reducible rfl)
                        try simp only [Act.put, List.setIfInBounds_toArray, List.set_cons_zero, List.set_cons_succ]
                        refine wpAnyH_take (i := 41) (oi := { dst := some 222, op := Op.binOp BinOp.lss 3 (Operand.tmp 207) (Operand.tmp 221) 3, type := 4, pos := "top03_wt47d.go:48", after := #[{ on := 26, ground := Ground.data }, { on := 40, ground := Ground.data }, { on := 15, ground := Ground.guard }], guard := some (15, false) }) (v := ?_) rfl (by kernel_rfl) (by kernel_rfl) (by kernel_rfl) (fun _ _ _ h => h) (Or.inl ⟨by rfl, ?_⟩) (by assumption) ?_
                        rotate_left
                        · (intro w hSw; (try dsimp only at hSw); go_simp); (try with_reducible rfl)
                        try simp only [Act.put, List.setIfInBounds_toArray, List.set_cons_zero, List.set_cons_succ]
                        refine wpAnyH_take (i := 42) (oi := { dst := some 223, op := Op.binOp BinOp.neq 4 (Operand.tmp 197) (Operand.tmp 222) 4, type := 4, pos := "top03_wt47d.go:48", after := #[{ on := 16, ground := Ground.data }, { on := 41, ground := Ground.data }, { on := 15, ground := Ground.guard }], guard := some (15, false) }) (v := ?_) rfl (by kernel_rfl) (by kernel_rfl) (by kernel_rfl) (fun _ _ _ h => h) (Or.inl ⟨by rfl, ?_⟩) (by assumption) ?_
                        rotate_left
                        · (intro w hSw; (try dsimp only at hSw); go_simp); (try with_reducible rfl)
                        try simp only [Act.put, List.setIfInBounds_toArray, List.set_cons_zero, List.set_cons_succ]
                        refine wpAnyH_take (i := 43) (oi := { dst := some 224, op := Op.move (Operand.tmp 223), type := 4, pos := "top03_wt47d.go:48", after := #[{ on := 42, ground := Ground.data }, { on := 15, ground := Ground.chain }, { on := 15, ground := Ground.guard }], guard := some (15, false) }) (v := ?_) rfl (by kernel_rfl) (by kernel_rfl) (by kernel_rfl) (fun _ _ _ h => h) (Or.inl ⟨by rfl, ?_⟩) (by assumption) ?_
                        rotate_left
                        · (intro w hSw; (try dsimp only at hSw); go_simp); (try with_reducible rfl)
                        try simp only [Act.put, List.setIfInBounds_toArray, List.set_cons_zero, List.set_cons_succ]
                        refine wpAnyH_take (i := 44) (oi := { dst := some 225, op := Op.move (Operand.tmp 22), type := 24, pos := "top03_wt47d.go:48", after := #[{ on := 43, ground := Ground.guard }], guard := some (43, true) }) (v := ?_) rfl (by kernel_rfl) (by kernel_rfl) (by kernel_rfl) (fun _ _ _ h => h) (Or.inl ⟨by rfl, ?_⟩) (by assumption) ?_
                        rotate_left
                        · (intro w hSw; (try dsimp only at hSw); go_simp); (try with_reducible rfl)
                        try simp only [Act.put, List.setIfInBounds_toArray, List.set_cons_zero, List.set_cons_succ]
                        refine wpAnyH_take (i := 45) (oi := { dst := some 226, op := Op.move (Operand.tmp 25), type := 3, pos := "top03_wt47d.go:48", after := #[{ on := 43, ground := Ground.guard }], guard := some (43, true) }) (v := ?_) rfl (by kernel_rfl) (by kernel_rfl) (by kernel_rfl) (fun _ _ _ h => h) (Or.inl ⟨by rfl, ?_⟩) (by assumption) ?_
                        rotate_left
                        · (intro w hSw; (try dsimp only at hSw); go_simp); (try with_reducible rfl)
                        try simp only [Act.put, List.setIfInBounds_toArray, List.set_cons_zero, List.set_cons_succ]
                        refine wpAnyH_take (i := 46) (oi := { dst := some 227, op := Op.binOp BinOp.sub 3 (Operand.tmp 226) (Operand.const (Value.int IntKind.i64 1)) 3, type := 3, pos := "top03_wt47d.go:48", after := #[{ on := 45, ground := Ground.data }, { on := 43, ground := Ground.guard }], guard := some (43, true) }) (v := ?_) rfl (by kernel_rfl) (by kernel_rfl) (by kernel_rfl) (fun _ _ _ h => h) (Or.inl ⟨by rfl, ?_⟩) (by assumption) ?_
                        rotate_left
                        · (intro w hSw; (try dsimp only at hSw); go_simp); (try with_reducible rfl)
                        try simp only [Act.put, List.setIfInBounds_toArray, List.set_cons_zero, List.set_cons_succ]
                        refine wpAnyH_take (i := 47) (oi := { dst := some 228, op := Op.indexAddr 24 (Operand.tmp 225) (Operand.tmp 227), type := 0, pos := "top03_wt47d.go:48", after := #[{ on := 44, ground := Ground.data }, { on := 46, ground := Ground.data }, { on := 43, ground := Ground.guard }], guard := some (43, true) }) (v := ?_) rfl (by kernel_rfl) (by kernel_rfl) (by kernel_rfl) (fun _ _ _ h => h) (Or.inl ⟨by rfl, ?_⟩) (by assumption) ?_
                        rotate_left
                        · (intro w hSw; (try dsimp only at hSw); go_simp); (try with_reducible rfl)
                        try simp only [Act.put, List.setIfInBounds_toArray, List.set_cons_zero, List.set_cons_succ]
                        refine wpAnyH_take (i := 48) (oi := { dst := some 229, op := Op.load 3 (Operand.tmp 228), type := 3, pos := "top03_wt47d.go:48", after := #[{ on := 47, ground := Ground.data }, { on := 43, ground := Ground.guard }], guard := some (43, true) }) (v := ?_) rfl (by kernel_rfl) (by kernel_rfl) (by kernel_rfl) (fun _ _ _ h => h) (Or.inl ⟨by rfl, ?_⟩) (by assumption) ?_
                        rotate_left
                        · (intro w hSw; (try dsimp only at hSw); go_simp); (try with_reducible rfl)
                        try simp only [Act.put, List.setIfInBounds_toArray, List.set_cons_zero, List.set_cons_succ]
                        refine wpAnyH_take (i := 49) (oi := { dst := some 230, op := Op.binOp BinOp.neq 3 (Operand.tmp 229) (Operand.const (Value.int IntKind.i64 0)) 3, type := 4, pos := "top03_wt47d.go:48", after := #[{ on := 48, ground := Ground.data }, { on := 43, ground := Ground.guard }], guard := some (43, true) }) (v := ?_) rfl (by kernel_rfl) (by kernel_rfl) (by kernel_rfl) (fun _ _ _ h => h) (Or.inl ⟨by rfl, ?_⟩) (by assumption) ?_
                        rotate_left
                        · (intro w hSw; (try dsimp only at hSw); go_simp); (try with_reducible rfl)
                        try simp only [Act.put, List.setIfInBounds_toArray, List.set_cons_zero, List.set_cons_succ]
                        refine wpAnyH_take (i := 50) (oi := { dst := some 231, op := Op.pick (Operand.tmp 224) (Operand.tmp 230) (Operand.const (Value.bool false)), type := 4, pos := "top03_wt47d.go:48", after := #[{ on := 43, ground := Ground.data }, { on := 49, ground := Ground.data }, { on := 15, ground := Ground.guard }], guard := some (15, false) }) (v := ?_) rfl (by kernel_rfl) (by kernel_rfl) (by kernel_rfl) (fun _ _ _ h => h) (Or.inl ⟨by rfl, ?_⟩) (by assumption) ?_
                        rotate_left
                        · (intro w hSw; (try dsimp only at hSw); go_simp); (try with_reducible rfl)
                        try simp only [Act.put, List.setIfInBounds_toArray, List.set_cons_zero, List.set_cons_succ]
                        refine wpAnyH_take (i := 51) (oi := { dst := some 232, op := Op.pick (Operand.tmp 196) (Operand.const (Value.bool true)) (Operand.tmp 231), type := 4, pos := "top03_wt47d.go:48", after := #[{ on := 15, ground := Ground.data }, { on := 50, ground := Ground.data }], guard := none }) (v := ?_) rfl (by kernel_rfl) (by kernel_rfl) (by kernel_rfl) (fun _ _ _ h => h) (Or.inl ⟨by rfl, ?_⟩) (by assumption) ?_
                        rotate_left
                        · (intro w hSw; (try dsimp only at hSw); go_simp); (try with_reducible rfl)
                        try simp only [Act.put, List.setIfInBounds_toArray, List.set_cons_zero, List.set_cons_succ]
                        refine wpAnyH_done (by kernel_rfl) ?_ _
                        clear hHeld0
                        (go_wp2_with fail; all_goals (go_meet; exact ⟨rfl, rfl⟩))
                      · as_aux_lemma =>
                        have hstep := HST.out hx0
                        have hx00 : (x != 0) = true := by simpa using hx0
                        refine wp_region_held_drew (S := (fun w' => w'.cell? ⟨cb, co, none⟩ = some (.int .i64 c) ∧ w'.cell? ⟨sb, so + k, none⟩ = some (.int .i64 y) ∧ w'.cell? ⟨sb, so + (k - 1), none⟩ = some (.int .i64 x))) (by kernel_rfl) ?_ (fun hHeld0 => ?_)
                        · (try dsimp only); go_keep
                        refine wpAnyH_take (i := 0) (oi := { dst := some 181, op := Op.move (Operand.tmp 22), type := 24, pos := "top03_wt47d.go:48", after := #[], guard := none }) (v := ?_) rfl (by kernel_rfl) (by kernel_rfl) (by kernel_rfl) (fun _ _ _ h => h) (Or.inl ⟨by rfl, ?_⟩) (by assumption) ?_
                        rotate_left
                        · (intro w hSw; (try dsimp only at hSw); go_simp); (try with_reducible rfl)
                        try simp only [Act.put, List.setIfInBounds_toArray, List.set_cons_zero, List.set_cons_succ]
                        refine wpAnyH_take (i := 1) (oi := { dst := some 182, op := Op.move (Operand.tmp 25), type := 3, pos := "top03_wt47d.go:48", after := #[], guard := none }) (v := ?_) rfl (by kernel_rfl) (by kernel_rfl) (by kernel_rfl) (fun _ _ _ h => h) (Or.inl ⟨by rfl, ?_⟩) (by assumption) ?_
                        rotate_left
                        · (intro w hSw; (try dsimp only at hSw); go_simp); (try with_reducible rfl)
                        try simp only [Act.put, List.setIfInBounds_toArray, List.set_cons_zero, List.set_cons_succ]
                        refine wpAnyH_take (i := 2) (oi := { dst := some 183, op := Op.indexAddr 24 (Operand.tmp 181) (Operand.tmp 182), type := 0, pos := "top03_wt47d.go:48", after := #[{ on := 0, ground := Ground.data }, { on := 1, ground := Ground.data }], guard := none }) (v := ?_) rfl (by kernel_rfl) (by kernel_rfl) (by kernel_rfl) (fun _ _ _ h => h) (Or.inl ⟨by rfl, ?_⟩) (by assumption) ?_
                        rotate_left
                        · (intro w hSw; (try dsimp only at hSw); go_simp); (try with_reducible rfl)
                        try simp only [Act.put, List.setIfInBounds_toArray, List.set_cons_zero, List.set_cons_succ]
                        refine wpAnyH_take (i := 3) (oi := { dst := some 184, op := Op.load 3 (Operand.tmp 183), type := 3, pos := "top03_wt47d.go:48", after := #[{ on := 2, ground := Ground.data }], guard := none }) (v := ?_) rfl (by kernel_rfl) (by kernel_rfl) (by kernel_rfl) (fun _ _ _ h => h) (Or.inl ⟨by rfl, ?_⟩) (by assumption) ?_
                        rotate_left
                        · (intro w hSw; (try dsimp only at hSw); go_simp); (try with_reducible rfl)
                        try simp only [Act.put, List.setIfInBounds_toArray, List.set_cons_zero, List.set_cons_succ]
                        refine wpAnyH_take (i := 4) (oi := { dst := some 185, op := Op.move (Operand.tmp 20), type := 25, pos := "top03_wt47d.go:48", after := #[], guard := none }) (v := ?_) rfl (by kernel_rfl) (by kernel_rfl) (by kernel_rfl) (fun _ _ _ h => h) (Or.inl ⟨by rfl, ?_⟩) (by assumption) ?_
                        rotate_left
                        · (intro w hSw; (try dsimp only at hSw); go_simp); (try with_reducible rfl)
                        try simp only [Act.put, List.setIfInBounds_toArray, List.set_cons_zero, List.set_cons_succ]
                        refine wpAnyH_take (i := 5) (oi := { dst := some 186, op := Op.indexAddr 25 (Operand.tmp 185) (Operand.const (Value.int IntKind.i64 0)), type := 0, pos := "top03_wt47d.go:48", after := #[{ on := 4, ground := Ground.data }], guard := none }) (v := ?_) rfl (by kernel_rfl) (by kernel_rfl) (by kernel_rfl) (fun _ _ _ h => h) (Or.inl ⟨by rfl, ?_⟩) (by assumption) ?_
                        rotate_left
                        · (intro w hSw; (try dsimp only at hSw); go_simp); (try with_reducible rfl)
                        try simp only [Act.put, List.setIfInBounds_toArray, List.set_cons_zero, List.set_cons_succ]
                        refine wpAnyH_take (i := 6) (oi := { dst := some 187, op := Op.load 3 (Operand.tmp 186), type := 3, pos := "top03_wt47d.go:48", after := #[{ on := 5, ground := Ground.data }], guard := none }) (v := ?_) rfl (by kernel_rfl) (by kernel_rfl) (by kernel_rfl) (fun _ _ _ h => h) (Or.inl ⟨by rfl, ?_⟩) (by assumption) ?_
                        rotate_left
                        · (intro w hSw; (try dsimp only at hSw); go_simp); (try with_reducible rfl)
                        try simp only [Act.put, List.setIfInBounds_toArray, List.set_cons_zero, List.set_cons_succ]
                        refine wpAnyH_take (i := 7) (oi := { dst := some 188, op := Op.unOp UnOp.neg 3 (Operand.tmp 187), type := 3, pos := "top03_wt47d.go:48", after := #[{ on := 6, ground := Ground.data }], guard := none }) (v := ?_) rfl (by kernel_rfl) (by kernel_rfl) (by kernel_rfl) (fun _ _ _ h => h) (Or.inl ⟨by rfl, ?_⟩) (by assumption) ?_
                        rotate_left
                        · (intro w hSw; (try dsimp only at hSw); go_simp); (try with_reducible rfl)
                        try simp only [Act.put, List.setIfInBounds_toArray, List.set_cons_zero, List.set_cons_succ]
                        refine wpAnyH_take (i := 8) (oi := { dst := some 189, op := Op.move (Operand.tmp 22), type := 24, pos := "top03_wt47d.go:48", after := #[], guard := none }) (v := ?_) rfl (by kernel_rfl) (by kernel_rfl) (by kernel_rfl) (fun _ _ _ h => h) (Or.inl ⟨by rfl, ?_⟩) (by assumption) ?_
                        rotate_left
                        · (intro w hSw; (try dsimp only at hSw); go_simp); (try with_reducible rfl)
                        try simp only [Act.put, List.setIfInBounds_toArray, List.set_cons_zero, List.set_cons_succ]
                        refine wpAnyH_take (i := 9) (oi := { dst := some 190, op := Op.move (Operand.tmp 25), type := 3, pos := "top03_wt47d.go:48", after := #[], guard := none }) (v := ?_) rfl (by kernel_rfl) (by kernel_rfl) (by kernel_rfl) (fun _ _ _ h => h) (Or.inl ⟨by rfl, ?_⟩) (by assumption) ?_
                        rotate_left
                        · (intro w hSw; (try dsimp only at hSw); go_simp); (try with_reducible rfl)
                        try simp only [Act.put, List.setIfInBounds_toArray, List.set_cons_zero, List.set_cons_succ]
                        refine wpAnyH_take (i := 10) (oi := { dst := some 191, op := Op.binOp BinOp.sub 3 (Operand.tmp 190) (Operand.const (Value.int IntKind.i64 1)) 3, type := 3, pos := "top03_wt47d.go:48", after := #[{ on := 9, ground := Ground.data }], guard := none }) (v := ?_) rfl (by kernel_rfl) (by kernel_rfl) (by kernel_rfl) (fun _ _ _ h => h) (Or.inl ⟨by rfl, ?_⟩) (by assumption) ?_
                        rotate_left
                        · (intro w hSw; (try dsimp only at hSw); go_simp); (try with_reducible rfl)
                        try simp only [Act.put, List.setIfInBounds_toArray, List.set_cons_zero, List.set_cons_succ]
                        refine wpAnyH_take (i := 11) (oi := { dst := some 192, op := Op.indexAddr 24 (Operand.tmp 189) (Operand.tmp 191), type := 0, pos := "top03_wt47d.go:48", after := #[{ on := 8, ground := Ground.data }, { on := 10, ground := Ground.data }], guard := none }) (v := ?_) rfl (by kernel_rfl) (by kernel_rfl) (by kernel_rfl) (fun _ _ _ h => h) (Or.inl ⟨by rfl, ?_⟩) (by assumption) ?_
                        rotate_left
                        · (intro w hSw; (try dsimp only at hSw); go_simp); (try with_reducible rfl)
                        try simp only [Act.put, List.setIfInBounds_toArray, List.set_cons_zero, List.set_cons_succ]
                        refine wpAnyH_take (i := 12) (oi := { dst := some 193, op := Op.load 3 (Operand.tmp 192), type := 3, pos := "top03_wt47d.go:48", after := #[{ on := 11, ground := Ground.data }], guard := none }) (v := ?_) rfl (by kernel_rfl) (by kernel_rfl) (by kernel_rfl) (fun _ _ _ h => h) (Or.inl ⟨by rfl, ?_⟩) (by assumption) ?_
                        rotate_left
                        · (intro w hSw; (try dsimp only at hSw); go_simp); (try with_reducible rfl)
                        try simp only [Act.put, List.setIfInBounds_toArray, List.set_cons_zero, List.set_cons_succ]
                        refine wpAnyH_take (i := 13) (oi := { dst := some 194, op := Op.binOp BinOp.mul 3 (Operand.tmp 188) (Operand.tmp 193) 3, type := 3, pos := "top03_wt47d.go:48", after := #[{ on := 7, ground := Ground.data }, { on := 12, ground := Ground.data }], guard := none }) (v := ?_) rfl (by kernel_rfl) (by kernel_rfl) (by kernel_rfl) (fun _ _ _ h => h) (Or.inl ⟨by rfl, ?_⟩) (by assumption) ?_
                        rotate_left
                        · (intro w hSw; (try dsimp only at hSw); go_simp); (try with_reducible rfl)
                        try simp only [Act.put, List.setIfInBounds_toArray, List.set_cons_zero, List.set_cons_succ]
                        refine wpAnyH_take (i := 14) (oi := { dst := some 195, op := Op.binOp BinOp.neq 3 (Operand.tmp 184) (Operand.tmp 194) 3, type := 4, pos := "top03_wt47d.go:48", after := #[{ on := 3, ground := Ground.data }, { on := 13, ground := Ground.data }], guard := none }) (v := ?_) rfl (by kernel_rfl) (by kernel_rfl) (by kernel_rfl) (fun _ _ _ h => h) (Or.inl ⟨by rfl, ?_⟩) (by assumption) ?_
                        rotate_left
                        · (intro w hSw; (try dsimp only at hSw); go_simp); (try with_reducible rfl)
                        try simp only [Act.put, List.setIfInBounds_toArray, List.set_cons_zero, List.set_cons_succ]
                        refine wpAnyH_take (i := 15) (oi := { dst := some 196, op := Op.move (Operand.tmp 195), type := 4, pos := "top03_wt47d.go:48", after := #[{ on := 14, ground := Ground.data }], guard := none }) (v := ?_) rfl (by kernel_rfl) (by kernel_rfl) (by kernel_rfl) (fun _ _ _ h => h) (Or.inl ⟨by rfl, ?_⟩) (by assumption) ?_
                        rotate_left
                        · (intro w hSw; (try dsimp only at hSw); go_simp); (try with_reducible rfl)
                        try simp only [Act.put, List.setIfInBounds_toArray, List.set_cons_zero, List.set_cons_succ]
                        refine wpAnyH_take (i := 16) (oi := { dst := some 197, op := Op.move (Operand.tmp 24), type := 4, pos := "top03_wt47d.go:48", after := #[{ on := 15, ground := Ground.guard }], guard := some (15, false) }) (v := ?_) rfl (by kernel_rfl) (by kernel_rfl) (by kernel_rfl) (fun _ _ _ h => h) (Or.inl ⟨by rfl, ?_⟩) (by assumption) ?_
                        rotate_left
                        · (intro w hSw; (try dsimp only at hSw); go_simp); (try with_reducible rfl)
                        try simp only [Act.put, List.setIfInBounds_toArray, List.set_cons_zero, List.set_cons_succ]
                        refine wpAnyH_take (i := 17) (oi := { dst := some 198, op := Op.move (Operand.tmp 22), type := 24, pos := "top03_wt47d.go:48", after := #[{ on := 15, ground := Ground.guard }], guard := some (15, false) }) (v := ?_) rfl (by kernel_rfl) (by kernel_rfl) (by kernel_rfl) (fun _ _ _ h => h) (Or.inl ⟨by rfl, ?_⟩) (by assumption) ?_
                        rotate_left
                        · (intro w hSw; (try dsimp only at hSw); go_simp); (try with_reducible rfl)
                        try simp only [Act.put, List.setIfInBounds_toArray, List.set_cons_zero, List.set_cons_succ]
                        refine wpAnyH_take (i := 18) (oi := { dst := some 199, op := Op.move (Operand.tmp 25), type := 3, pos := "top03_wt47d.go:48", after := #[{ on := 15, ground := Ground.guard }], guard := some (15, false) }) (v := ?_) rfl (by kernel_rfl) (by kernel_rfl) (by kernel_rfl) (fun _ _ _ h => h) (Or.inl ⟨by rfl, ?_⟩) (by assumption) ?_
                        rotate_left
                        · (intro w hSw; (try dsimp only at hSw); go_simp); (try with_reducible rfl)
                        try simp only [Act.put, List.setIfInBounds_toArray, List.set_cons_zero, List.set_cons_succ]
                        refine wpAnyH_take (i := 19) (oi := { dst := some 200, op := Op.indexAddr 24 (Operand.tmp 198) (Operand.tmp 199), type := 0, pos := "top03_wt47d.go:48", after := #[{ on := 17, ground := Ground.data }, { on := 18, ground := Ground.data }, { on := 15, ground := Ground.guard }], guard := some (15, false) }) (v := ?_) rfl (by kernel_rfl) (by kernel_rfl) (by kernel_rfl) (fun _ _ _ h => h) (Or.inl ⟨by rfl, ?_⟩) (by assumption) ?_
                        rotate_left
                        · (intro w hSw; (try dsimp only at hSw); go_simp); (try with_reducible rfl)
                        try simp only [Act.put, List.setIfInBounds_toArray, List.set_cons_zero, List.set_cons_succ]
                        refine wpAnyH_take (i := 20) (oi := { dst := some 201, op := Op.load 3 (Operand.tmp 200), type := 3, pos := "top03_wt47d.go:48", after := #[{ on := 19, ground := Ground.data }, { on := 15, ground := Ground.guard }], guard := some (15, false) }) (v := ?_) rfl (by kernel_rfl) (by kernel_rfl) (by kernel_rfl) (fun _ _ _ h => h) (Or.inl ⟨by rfl, ?_⟩) (by assumption) ?_
                        rotate_left
                        · (intro w hSw; (try dsimp only at hSw); go_simp); (try with_reducible rfl)
                        try simp only [Act.put, List.setIfInBounds_toArray, List.set_cons_zero, List.set_cons_succ]
                        refine wpAnyH_take (i := 21) (oi := { dst := some 202, op := Op.move (Operand.tmp 22), type := 24, pos := "top03_wt47d.go:48", after := #[{ on := 15, ground := Ground.guard }], guard := some (15, false) }) (v := ?_) rfl (by kernel_rfl) (by kernel_rfl) (by kernel_rfl) (fun _ _ _ h => h) (Or.inl ⟨by rfl, ?_⟩) (by assumption) ?_
                        rotate_left
                        · (intro w hSw; (try dsimp only at hSw); go_simp); (try with_reducible rfl)
                        try simp only [Act.put, List.setIfInBounds_toArray, List.set_cons_zero, List.set_cons_succ]
                        refine wpAnyH_take (i := 22) (oi := { dst := some 203, op := Op.move (Operand.tmp 25), type := 3, pos := "top03_wt47d.go:48", after := #[{ on := 15, ground := Ground.guard }], guard := some (15, false) }) (v := ?_) rfl (by kernel_rfl) (by kernel_rfl) (by kernel_rfl) (fun _ _ _ h => h) (Or.inl ⟨by rfl, ?_⟩) (by assumption) ?_
                        rotate_left
                        · (intro w hSw; (try dsimp only at hSw); go_simp); (try with_reducible rfl)
                        try simp only [Act.put, List.setIfInBounds_toArray, List.set_cons_zero, List.set_cons_succ]
                        refine wpAnyH_take (i := 23) (oi := { dst := some 204, op := Op.indexAddr 24 (Operand.tmp 202) (Operand.tmp 203), type := 0, pos := "top03_wt47d.go:48", after := #[{ on := 21, ground := Ground.data }, { on := 22, ground := Ground.data }, { on := 15, ground := Ground.guard }], guard := some (15, false) }) (v := ?_) rfl (by kernel_rfl) (by kernel_rfl) (by kernel_rfl) (fun _ _ _ h => h) (Or.inl ⟨by rfl, ?_⟩) (by assumption) ?_
                        rotate_left
                        · (intro w hSw; (try dsimp only at hSw); go_simp); (try with_reducible rfl)
                        try simp only [Act.put, List.setIfInBounds_toArray, List.set_cons_zero, List.set_cons_succ]
                        refine wpAnyH_take (i := 24) (oi := { dst := some 205, op := Op.load 3 (Operand.tmp 204), type := 3, pos := "top03_wt47d.go:48", after := #[{ on := 23, ground := Ground.data }, { on := 15, ground := Ground.guard }], guard := some (15, false) }) (v := ?_) rfl (by kernel_rfl) (by kernel_rfl) (by kernel_rfl) (fun _ _ _ h => h) (Or.inl ⟨by rfl, ?_⟩) (by assumption) ?_
                        rotate_left
                        · (intro w hSw; (try dsimp only at hSw); go_simp); (try with_reducible rfl)
                        try simp only [Act.put, List.setIfInBounds_toArray, List.set_cons_zero, List.set_cons_succ]
                        refine wpAnyH_take (i := 25) (oi := { dst := some 206, op := Op.unOp UnOp.neg 3 (Operand.tmp 205), type := 3, pos := "top03_wt47d.go:48", after := #[{ on := 24, ground := Ground.data }, { on := 15, ground := Ground.guard }], guard := some (15, false) }) (v := ?_) rfl (by kernel_rfl) (by kernel_rfl) (by kernel_rfl) (fun _ _ _ h => h) (Or.inl ⟨by rfl, ?_⟩) (by assumption) ?_
                        rotate_left
                        · (intro w hSw; (try dsimp only at hSw); go_simp); (try with_reducible rfl)
                        try simp only [Act.put, List.setIfInBounds_toArray, List.set_cons_zero, List.set_cons_succ]
                        refine wpAnyH_take (i := 26) (oi := { dst := some 207, op := Op.call { callee := Callee.builtin Builtin.max, args := #[Operand.tmp 201, Operand.tmp 206], argTypes := #[3, 3] }, type := 3, pos := "top03_wt47d.go:48", after := #[{ on := 20, ground := Ground.data }, { on := 25, ground := Ground.data }, { on := 15, ground := Ground.guard }], guard := some (15, false) }) (v := ?_) rfl (by kernel_rfl) (by kernel_rfl) (by kernel_rfl) (fun _ _ _ h => h) (Or.inl ⟨by rfl, ?_⟩) (by assumption) ?_
                        rotate_left
                        · (intro w hSw; (try dsimp only at hSw); go_simp); (try with_reducible rfl)
                        try simp only [Act.put, List.setIfInBounds_toArray, List.set_cons_zero, List.set_cons_succ]
                        refine wpAnyH_take (i := 27) (oi := { dst := some 208, op := Op.move (Operand.tmp 7), type := 3, pos := "top03_wt47d.go:48", after := #[{ on := 15, ground := Ground.guard }], guard := some (15, false) }) (v := ?_) rfl (by kernel_rfl) (by kernel_rfl) (by kernel_rfl) (fun _ _ _ h => h) (Or.inl ⟨by rfl, ?_⟩) (by assumption) ?_
                        rotate_left
                        · (intro w hSw; (try dsimp only at hSw); go_simp); (try with_reducible rfl)
                        try simp only [Act.put, List.setIfInBounds_toArray, List.set_cons_zero, List.set_cons_succ]
                        refine wpAnyH_take (i := 28) (oi := { dst := some 209, op := Op.move (Operand.tmp 22), type := 24, pos := "top03_wt47d.go:48", after := #[{ on := 15, ground := Ground.guard }], guard := some (15, false) }) (v := ?_) rfl (by kernel_rfl) (by kernel_rfl) (by kernel_rfl) (fun _ _ _ h => h) (Or.inl ⟨by rfl, ?_⟩) (by assumption) ?_
                        rotate_left
                        · (intro w hSw; (try dsimp only at hSw); go_simp); (try with_reducible rfl)
                        try simp only [Act.put, List.setIfInBounds_toArray, List.set_cons_zero, List.set_cons_succ]
                        refine wpAnyH_take (i := 29) (oi := { dst := some 210, op := Op.move (Operand.tmp 25), type := 3, pos := "top03_wt47d.go:48", after := #[{ on := 15, ground := Ground.guard }], guard := some (15, false) }) (v := ?_) rfl (by kernel_rfl) (by kernel_rfl) (by kernel_rfl) (fun _ _ _ h => h) (Or.inl ⟨by rfl, ?_⟩) (by assumption) ?_
                        rotate_left
                        · (intro w hSw; (try dsimp only at hSw); go_simp); (try with_reducible rfl)
                        try simp only [Act.put, List.setIfInBounds_toArray, List.set_cons_zero, List.set_cons_succ]
                        refine wpAnyH_take (i := 30) (oi := { dst := some 211, op := Op.binOp BinOp.sub 3 (Operand.tmp 210) (Operand.const (Value.int IntKind.i64 1)) 3, type := 3, pos := "top03_wt47d.go:48", after := #[{ on := 29, ground := Ground.data }, { on := 15, ground := Ground.guard }], guard := some (15, false) }) (v := ?_) rfl (by kernel_rfl) (by kernel_rfl) (by kernel_rfl) (fun _ _ _ h => h) (Or.inl ⟨by rfl, ?_⟩) (by assumption) ?_
                        rotate_left
                        · (intro w hSw; (try dsimp only at hSw); go_simp); (try with_reducible rfl)
                        try simp only [Act.put, List.setIfInBounds_toArray, List.set_cons_zero, List.set_cons_succ]
                        refine wpAnyH_take (i := 31) (oi := { dst := some 212, op := Op.indexAddr 24 (Operand.tmp 209) (Operand.tmp 211), type := 0, pos := "top03_wt47d.go:48", after := #[{ on := 28, ground := Ground.data }, { on := 30, ground := Ground.data }, { on := 15, ground := Ground.guard }], guard := some (15, false) }) (v := ?_) rfl (by kernel_rfl) (by kernel_rfl) (by kernel_rfl) (fun _ _ _ h => h) (Or.inl ⟨by rfl, ?_⟩) (by assumption) ?_
                        rotate_left
                        · (intro w hSw; (try dsimp only at hSw); go_simp); (try with_reducible rfl)
                        try simp only [Act.put, List.setIfInBounds_toArray, List.set_cons_zero, List.set_cons_succ]
                        refine wpAnyH_take (i := 32) (oi := { dst := some 213, op := Op.load 3 (Operand.tmp 212), type := 3, pos := "top03_wt47d.go:48", after := #[{ on := 31, ground := Ground.data }, { on := 15, ground := Ground.guard }], guard := some (15, false) }) (v := ?_) rfl (by kernel_rfl) (by kernel_rfl) (by kernel_rfl) (fun _ _ _ h => h) (Or.inl ⟨by rfl, ?_⟩) (by assumption) ?_
                        rotate_left
                        · (intro w hSw; (try dsimp only at hSw); go_simp); (try with_reducible rfl)
                        try simp only [Act.put, List.setIfInBounds_toArray, List.set_cons_zero, List.set_cons_succ]
                        refine wpAnyH_take (i := 33) (oi := { dst := some 214, op := Op.move (Operand.tmp 22), type := 24, pos := "top03_wt47d.go:48", after := #[{ on := 15, ground := Ground.guard }], guard := some (15, false) }) (v := ?_) rfl (by kernel_rfl) (by kernel_rfl) (by kernel_rfl) (fun _ _ _ h => h) (Or.inl ⟨by rfl, ?_⟩) (by assumption) ?_
                        rotate_left
                        · (intro w hSw; (try dsimp only at hSw); go_simp); (try with_reducible rfl)
                        try simp only [Act.put, List.setIfInBounds_toArray, List.set_cons_zero, List.set_cons_succ]
                        refine wpAnyH_take (i := 34) (oi := { dst := some 215, op := Op.move (Operand.tmp 25), type := 3, pos := "top03_wt47d.go:48", after := #[{ on := 15, ground := Ground.guard }], guard := some (15, false) }) (v := ?_) rfl (by kernel_rfl) (by kernel_rfl) (by kernel_rfl) (fun _ _ _ h => h) (Or.inl ⟨by rfl, ?_⟩) (by assumption) ?_
                        rotate_left
                        · (intro w hSw; (try dsimp only at hSw); go_simp); (try with_reducible rfl)
                        try simp only [Act.put, List.setIfInBounds_toArray, List.set_cons_zero, List.set_cons_succ]
                        refine wpAnyH_take (i := 35) (oi := { dst := some 216, op := Op.binOp BinOp.sub 3 (Operand.tmp 215) (Operand.const (Value.int IntKind.i64 1)) 3, type := 3, pos := "top03_wt47d.go:48", after := #[{ on := 34, ground := Ground.data }, { on := 15, ground := Ground.guard }], guard := some (15, false) }) (v := ?_) rfl (by kernel_rfl) (by kernel_rfl) (by kernel_rfl) (fun _ _ _ h => h) (Or.inl ⟨by rfl, ?_⟩) (by assumption) ?_
                        rotate_left
                        · (intro w hSw; (try dsimp only at hSw); go_simp); (try with_reducible rfl)
                        try simp only [Act.put, List.setIfInBounds_toArray, List.set_cons_zero, List.set_cons_succ]
                        refine wpAnyH_take (i := 36) (oi := { dst := some 217, op := Op.indexAddr 24 (Operand.tmp 214) (Operand.tmp 216), type := 0, pos := "top03_wt47d.go:48", after := #[{ on := 33, ground := Ground.data }, { on := 35, ground := Ground.data }, { on := 15, ground := Ground.guard }], guard := some (15, false) }) (v := ?_) rfl (by kernel_rfl) (by kernel_rfl) (by kernel_rfl) (fun _ _ _ h => h) (Or.inl ⟨by rfl, ?_⟩) (by assumption) ?_
                        rotate_left
                        · (intro w hSw; (try dsimp only at hSw); go_simp); (try with_reducible rfl)
                        try simp only [Act.put, List.setIfInBounds_toArray, List.set_cons_zero, List.set_cons_succ]
                        refine wpAnyH_take (i := 37) (oi := { dst := some 218, op := Op.load 3 (Operand.tmp 217), type := 3, pos := "top03_wt47d.go:48", after := #[{ on := 36, ground := Ground.data }, { on := 15, ground := Ground.guard }], guard := some (15, false) }) (v := ?_) rfl (by kernel_rfl) (by kernel_rfl) (by kernel_rfl) (fun _ _ _ h => h) (Or.inl ⟨by rfl, ?_⟩) (by assumption) ?_
                        rotate_left
                        · (intro w hSw; (try dsimp only at hSw); go_simp); (try with_reducible rfl)
                        try simp only [Act.put, List.setIfInBounds_toArray, List.set_cons_zero, List.set_cons_succ]
                        refine wpAnyH_take (i := 38) (oi := { dst := some 219, op := Op.unOp UnOp.neg 3 (Operand.tmp 218), type := 3, pos := "top03_wt47d.go:48", after := #[{ on := 37, ground := Ground.data }, { on := 15, ground := Ground.guard }], guard := some (15, false) }) (v := ?_) rfl (by kernel_rfl) (by kernel_rfl) (by kernel_rfl) (fun _ _ _ h => h) (Or.inl ⟨by rfl, ?_⟩) (by assumption) ?_
                        rotate_left
                        · (intro w hSw; (try dsimp only at hSw); go_simp); (try with_reducible rfl)
                        try simp only [Act.put, List.setIfInBounds_toArray, List.set_cons_zero, List.set_cons_succ]
                        refine wpAnyH_take (i := 39) (oi := { dst := some 220, op := Op.call { callee := Callee.builtin Builtin.max, args := #[Operand.tmp 213, Operand.tmp 219], argTypes := #[3, 3] }, type := 3, pos := "top03_wt47d.go:48", after := #[{ on := 32, ground := Ground.data }, { on := 38, ground := Ground.data }, { on := 15, ground := Ground.guard }], guard := some (15, false) }) (v := ?_) rfl (by kernel_rfl) (by kernel_rfl) (by kernel_rfl) (fun _ _ _ h => h) (Or.inl ⟨by rfl, ?_⟩) (by assumption) ?_
                        rotate_left
                        · (intro w hSw; (try dsimp only at hSw); go_simp); (try with_reducible rfl)
                        try simp only [Act.put, List.setIfInBounds_toArray, List.set_cons_zero, List.set_cons_succ]
                        refine wpAnyH_take (i := 40) (oi := { dst := some 221, op := Op.binOp BinOp.mul 3 (Operand.tmp 208) (Operand.tmp 220) 3, type := 3, pos := "top03_wt47d.go:48", after := #[{ on := 27, ground := Ground.data }, { on := 39, ground := Ground.data }, { on := 15, ground := Ground.guard }], guard := some (15, false) }) (v := ?_) rfl (by kernel_rfl) (by kernel_rfl) (by kernel_rfl) (fun _ _ _ h => h) (Or.inl ⟨by rfl, ?_⟩) (by assumption) ?_
                        rotate_left
                        · (intro w hSw; (try dsimp only at hSw); go_simp); (try with_reducible rfl)
                        try simp only [Act.put, List.setIfInBounds_toArray, List.set_cons_zero, List.set_cons_succ]
                        refine wpAnyH_take (i := 41) (oi := { dst := some 222, op := Op.binOp BinOp.lss 3 (Operand.tmp 207) (Operand.tmp 221) 3, type := 4, pos := "top03_wt47d.go:48", after := #[{ on := 26, ground := Ground.data }, { on := 40, ground := Ground.data }, { on := 15, ground := Ground.guard }], guard := some (15, false) }) (v := ?_) rfl (by kernel_rfl) (by kernel_rfl) (by kernel_rfl) (fun _ _ _ h => h) (Or.inl ⟨by rfl, ?_⟩) (by assumption) ?_
                        rotate_left
                        · (intro w hSw; (try dsimp only at hSw); go_simp); (try with_reducible rfl)
                        try simp only [Act.put, List.setIfInBounds_toArray, List.set_cons_zero, List.set_cons_succ]
                        refine wpAnyH_take (i := 42) (oi := { dst := some 223, op := Op.binOp BinOp.neq 4 (Operand.tmp 197) (Operand.tmp 222) 4, type := 4, pos := "top03_wt47d.go:48", after := #[{ on := 16, ground := Ground.data }, { on := 41, ground := Ground.data }, { on := 15, ground := Ground.guard }], guard := some (15, false) }) (v := ?_) rfl (by kernel_rfl) (by kernel_rfl) (by kernel_rfl) (fun _ _ _ h => h) (Or.inl ⟨by rfl, ?_⟩) (by assumption) ?_
                        rotate_left
                        · (intro w hSw; (try dsimp only at hSw); go_simp); (try with_reducible rfl)
                        try simp only [Act.put, List.setIfInBounds_toArray, List.set_cons_zero, List.set_cons_succ]
                        refine wpAnyH_take (i := 43) (oi := { dst := some 224, op := Op.move (Operand.tmp 223), type := 4, pos := "top03_wt47d.go:48", after := #[{ on := 42, ground := Ground.data }, { on := 15, ground := Ground.chain }, { on := 15, ground := Ground.guard }], guard := some (15, false) }) (v := ?_) rfl (by kernel_rfl) (by kernel_rfl) (by kernel_rfl) (fun _ _ _ h => h) (Or.inl ⟨by rfl, ?_⟩) (by assumption) ?_
                        rotate_left
                        · (intro w hSw; (try dsimp only at hSw); go_simp); (try with_reducible rfl)
                        try simp only [Act.put, List.setIfInBounds_toArray, List.set_cons_zero, List.set_cons_succ]
                        refine wpAnyH_take (i := 44) (oi := { dst := some 225, op := Op.move (Operand.tmp 22), type := 24, pos := "top03_wt47d.go:48", after := #[{ on := 43, ground := Ground.guard }], guard := some (43, true) }) (v := undef) rfl (by kernel_rfl) (by kernel_rfl) (by kernel_rfl) (fun _ _ _ h => h) (Or.inr ⟨by rfl, rfl⟩) (by assumption) ?_
                        try simp only [Act.put, List.setIfInBounds_toArray, List.set_cons_zero, List.set_cons_succ]
                        refine wpAnyH_take (i := 45) (oi := { dst := some 226, op := Op.move (Operand.tmp 25), type := 3, pos := "top03_wt47d.go:48", after := #[{ on := 43, ground := Ground.guard }], guard := some (43, true) }) (v := undef) rfl (by kernel_rfl) (by kernel_rfl) (by kernel_rfl) (fun _ _ _ h => h) (Or.inr ⟨by rfl, rfl⟩) (by assumption) ?_
                        try simp only [Act.put, List.setIfInBounds_toArray, List.set_cons_zero, List.set_cons_succ]
                        refine wpAnyH_take (i := 46) (oi := { dst := some 227, op := Op.binOp BinOp.sub 3 (Operand.tmp 226) (Operand.const (Value.int IntKind.i64 1)) 3, type := 3, pos := "top03_wt47d.go:48", after := #[{ on := 45, ground := Ground.data }, { on := 43, ground := Ground.guard }], guard := some (43, true) }) (v := undef) rfl (by kernel_rfl) (by kernel_rfl) (by kernel_rfl) (fun _ _ _ h => h) (Or.inr ⟨by rfl, rfl⟩) (by assumption) ?_
                        try simp only [Act.put, List.setIfInBounds_toArray, List.set_cons_zero, List.set_cons_succ]
                        refine wpAnyH_take (i := 47) (oi := { dst := some 228, op := Op.indexAddr 24 (Operand.tmp 225) (Operand.tmp 227), type := 0, pos := "top03_wt47d.go:48", after := #[{ on := 44, ground := Ground.data }, { on := 46, ground := Ground.data }, { on := 43, ground := Ground.guard }], guard := some (43, true) }) (v := undef) rfl (by kernel_rfl) (by kernel_rfl) (by kernel_rfl) (fun _ _ _ h => h) (Or.inr ⟨by rfl, rfl⟩) (by assumption) ?_
                        try simp only [Act.put, List.setIfInBounds_toArray, List.set_cons_zero, List.set_cons_succ]
                        refine wpAnyH_take (i := 48) (oi := { dst := some 229, op := Op.load 3 (Operand.tmp 228), type := 3, pos := "top03_wt47d.go:48", after := #[{ on := 47, ground := Ground.data }, { on := 43, ground := Ground.guard }], guard := some (43, true) }) (v := undef) rfl (by kernel_rfl) (by kernel_rfl) (by kernel_rfl) (fun _ _ _ h => h) (Or.inr ⟨by rfl, rfl⟩) (by assumption) ?_
                        try simp only [Act.put, List.setIfInBounds_toArray, List.set_cons_zero, List.set_cons_succ]
                        refine wpAnyH_take (i := 49) (oi := { dst := some 230, op := Op.binOp BinOp.neq 3 (Operand.tmp 229) (Operand.const (Value.int IntKind.i64 0)) 3, type := 4, pos := "top03_wt47d.go:48", after := #[{ on := 48, ground := Ground.data }, { on := 43, ground := Ground.guard }], guard := some (43, true) }) (v := undef) rfl (by kernel_rfl) (by kernel_rfl) (by kernel_rfl) (fun _ _ _ h => h) (Or.inr ⟨by rfl, rfl⟩) (by assumption) ?_
                        try simp only [Act.put, List.setIfInBounds_toArray, List.set_cons_zero, List.set_cons_succ]
                        refine wpAnyH_take (i := 50) (oi := { dst := some 231, op := Op.pick (Operand.tmp 224) (Operand.tmp 230) (Operand.const (Value.bool false)), type := 4, pos := "top03_wt47d.go:48", after := #[{ on := 43, ground := Ground.data }, { on := 49, ground := Ground.data }, { on := 15, ground := Ground.guard }], guard := some (15, false) }) (v := ?_) rfl (by kernel_rfl) (by kernel_rfl) (by kernel_rfl) (fun _ _ _ h => h) (Or.inl ⟨by rfl, ?_⟩) (by assumption) ?_
                        rotate_left
                        · (intro w hSw; (try dsimp only at hSw); go_simp); (try with_reducible rfl)
                        try simp only [Act.put, List.setIfInBounds_toArray, List.set_cons_zero, List.set_cons_succ]
                        refine wpAnyH_take (i := 51) (oi := { dst := some 232, op := Op.pick (Operand.tmp 196) (Operand.const (Value.bool true)) (Operand.tmp 231), type := 4, pos := "top03_wt47d.go:48", after := #[{ on := 15, ground := Ground.data }, { on := 50, ground := Ground.data }], guard := none }) (v := ?_) rfl (by kernel_rfl) (by kernel_rfl) (by kernel_rfl) (fun _ _ _ h => h) (Or.inl ⟨by rfl, ?_⟩) (by assumption) ?_
                        rotate_left
                        · (intro w hSw; (try dsimp only at hSw); go_simp); (try with_reducible rfl)
                        try simp only [Act.put, List.setIfInBounds_toArray, List.set_cons_zero, List.set_cons_succ]
                        refine wpAnyH_done (by kernel_rfl) ?_ _
                        clear hHeld0
                        (go_wp2_with fail; all_goals (go_meet; exact ⟨rfl, rfl⟩))
                    case rest =>
                      obtain ⟨rfl, rfl⟩ := hcut
                      clear sx sy c0
                      go_wp2
                      go_roundw
                      case rel => exact ⟨k + 1, by go_num, by omega, by omega, hb2.drew⟩
                      case measure => simp [intOf]; omega
                  · obtain rfl : k = 5 := by omega
                    have hr9 := bthen hrx8 hb2
                    clear HS c0
                    have hF : fallsC den c = true := by rw [HC2.out]; exact HALL.out gain hga hle
                    go_wp2
                    go_roundw
                    case rel => exact ⟨gain + 1, by go_num, by omega, by omega, hr9⟩
                    case measure => simp [intOf]; omega
            · rw [hE] at ts
              refine ts.mono ?_
              clear ts hE
              rintro e x7 ⟨⟨us, rfl, hus⟩, hx7⟩
              have hrx7 := bthen hrx6 hx7
              have c0 := cellb c0 hx7
              obtain ⟨usa, usc, rfl, _⟩ := hus
              clear hx7 hrx6 huv6
              go_upto_region 19 with fail
              go_cut [24] from 155 to 164 (fun v24 wx => v24 = .bool (fallsC den c) ∧ wx = x7.drew)
              case first =>
               as_aux_lemma =>
                have hfi := falls_ite den c
                have hnc : IntKind.i64.wrap (-c) = -c := IntWalk.i64_in _ (by omega)
                refine wp_region_held_drew (S := (fun w' => w'.cell? ⟨cb, co, none⟩ = some (.int .i64 c))) (by kernel_rfl) ?_ (fun hHeld0 => ?_)
                · (try dsimp only); go_keep
                refine wpAnyH_take (i := 0) (oi := { dst := some 155, op := Op.move (Operand.tmp 20), type := 25, pos := "top03_wt47d.go:42", after := #[], guard := none }) (v := ?_) rfl (by kernel_rfl) (by kernel_rfl) (by kernel_rfl) (fun _ _ _ h => h) (Or.inl ⟨by rfl, ?_⟩) (by assumption) ?_
                rotate_left
                · (intro w hSw; (try dsimp only at hSw); go_simp); (try with_reducible rfl)
                try simp only [Act.put, List.setIfInBounds_toArray, List.set_cons_zero, List.set_cons_succ]
                refine wpAnyH_take (i := 1) (oi := { dst := some 156, op := Op.indexAddr 25 (Operand.tmp 155) (Operand.const (Value.int IntKind.i64 0)), type := 0, pos := "top03_wt47d.go:42", after := #[{ on := 0, ground := Ground.data }], guard := none }) (v := ?_) rfl (by kernel_rfl) (by kernel_rfl) (by kernel_rfl) (fun _ _ _ h => h) (Or.inl ⟨by rfl, ?_⟩) (by assumption) ?_
                rotate_left
                · (intro w hSw; (try dsimp only at hSw); go_simp); (try with_reducible rfl)
                try simp only [Act.put, List.setIfInBounds_toArray, List.set_cons_zero, List.set_cons_succ]
                refine wpAnyH_take (i := 2) (oi := { dst := some 157, op := Op.load 3 (Operand.tmp 156), type := 3, pos := "top03_wt47d.go:42", after := #[{ on := 1, ground := Ground.data }], guard := none }) (v := ?_) rfl (by kernel_rfl) (by kernel_rfl) (by kernel_rfl) (fun _ _ _ h => h) (Or.inl ⟨by rfl, ?_⟩) (by assumption) ?_
                rotate_left
                · (intro w hSw; (try dsimp only at hSw); go_simp); (try with_reducible rfl)
                try simp only [Act.put, List.setIfInBounds_toArray, List.set_cons_zero, List.set_cons_succ]
                refine wpAnyH_take (i := 3) (oi := { dst := some 158, op := Op.move (Operand.tmp 20), type := 25, pos := "top03_wt47d.go:42", after := #[], guard := none }) (v := ?_) rfl (by kernel_rfl) (by kernel_rfl) (by kernel_rfl) (fun _ _ _ h => h) (Or.inl ⟨by rfl, ?_⟩) (by assumption) ?_
                rotate_left
                · (intro w hSw; (try dsimp only at hSw); go_simp); (try with_reducible rfl)
                try simp only [Act.put, List.setIfInBounds_toArray, List.set_cons_zero, List.set_cons_succ]
                refine wpAnyH_take (i := 4) (oi := { dst := some 159, op := Op.indexAddr 25 (Operand.tmp 158) (Operand.const (Value.int IntKind.i64 0)), type := 0, pos := "top03_wt47d.go:42", after := #[{ on := 3, ground := Ground.data }], guard := none }) (v := ?_) rfl (by kernel_rfl) (by kernel_rfl) (by kernel_rfl) (fun _ _ _ h => h) (Or.inl ⟨by rfl, ?_⟩) (by assumption) ?_
                rotate_left
                · (intro w hSw; (try dsimp only at hSw); go_simp); (try with_reducible rfl)
                try simp only [Act.put, List.setIfInBounds_toArray, List.set_cons_zero, List.set_cons_succ]
                refine wpAnyH_take (i := 5) (oi := { dst := some 160, op := Op.load 3 (Operand.tmp 159), type := 3, pos := "top03_wt47d.go:42", after := #[{ on := 4, ground := Ground.data }], guard := none }) (v := ?_) rfl (by kernel_rfl) (by kernel_rfl) (by kernel_rfl) (fun _ _ _ h => h) (Or.inl ⟨by rfl, ?_⟩) (by assumption) ?_
                rotate_left
                · (intro w hSw; (try dsimp only at hSw); go_simp); (try with_reducible rfl)
                try simp only [Act.put, List.setIfInBounds_toArray, List.set_cons_zero, List.set_cons_succ]
                refine wpAnyH_take (i := 6) (oi := { dst := some 161, op := Op.unOp UnOp.neg 3 (Operand.tmp 160), type := 3, pos := "top03_wt47d.go:42", after := #[{ on := 5, ground := Ground.data }], guard := none }) (v := ?_) rfl (by kernel_rfl) (by kernel_rfl) (by kernel_rfl) (fun _ _ _ h => h) (Or.inl ⟨by rfl, ?_⟩) (by assumption) ?_
                rotate_left
                · (intro w hSw; (try dsimp only at hSw); go_simp); (try with_reducible rfl)
                try simp only [Act.put, List.setIfInBounds_toArray, List.set_cons_zero, List.set_cons_succ]
                refine wpAnyH_take (i := 7) (oi := { dst := some 162, op := Op.call { callee := Callee.builtin Builtin.max, args := #[Operand.tmp 157, Operand.tmp 161], argTypes := #[3, 3] }, type := 3, pos := "top03_wt47d.go:42", after := #[{ on := 2, ground := Ground.data }, { on := 6, ground := Ground.data }], guard := none }) (v := ?_) rfl (by kernel_rfl) (by kernel_rfl) (by kernel_rfl) (fun _ _ _ h => h) (Or.inl ⟨by rfl, ?_⟩) (by assumption) ?_
                rotate_left
                · (intro w hSw; (try dsimp only at hSw); go_simp); (try with_reducible rfl)
                try simp only [Act.put, List.setIfInBounds_toArray, List.set_cons_zero, List.set_cons_succ]
                refine wpAnyH_take (i := 8) (oi := { dst := some 163, op := Op.move (Operand.tmp 7), type := 3, pos := "top03_wt47d.go:42", after := #[], guard := none }) (v := ?_) rfl (by kernel_rfl) (by kernel_rfl) (by kernel_rfl) (fun _ _ _ h => h) (Or.inl ⟨by rfl, ?_⟩) (by assumption) ?_
                rotate_left
                · (intro w hSw; (try dsimp only at hSw); go_simp); (try with_reducible rfl)
                try simp only [Act.put, List.setIfInBounds_toArray, List.set_cons_zero, List.set_cons_succ]
                refine wpAnyH_take (i := 9) (oi := { dst := some 164, op := Op.binOp BinOp.lss 3 (Operand.tmp 162) (Operand.tmp 163) 3, type := 4, pos := "top03_wt47d.go:42", after := #[{ on := 7, ground := Ground.data }, { on := 8, ground := Ground.data }], guard := none }) (v := ?_) rfl (by kernel_rfl) (by kernel_rfl) (by kernel_rfl) (fun _ _ _ h => h) (Or.inl ⟨by rfl, ?_⟩) (by assumption) ?_
                rotate_left
                · (intro w hSw; (try dsimp only at hSw); go_simp); (try with_reducible rfl)
                try simp only [Act.put, List.setIfInBounds_toArray, List.set_cons_zero, List.set_cons_succ]
                refine wpAnyH_take (i := 10) (oi := { dst := some 24, op := Op.assign (Operand.tmp 164), type := 4, pos := "top03_wt47d.go:42", after := #[{ on := 9, ground := Ground.data }, { on := 0, ground := Ground.phase }, { on := 1, ground := Ground.phase }, { on := 2, ground := Ground.phase }, { on := 3, ground := Ground.phase }, { on := 4, ground := Ground.phase }, { on := 5, ground := Ground.phase }, { on := 6, ground := Ground.phase }, { on := 7, ground := Ground.phase }, { on := 8, ground := Ground.phase }, { on := 9, ground := Ground.phase }], guard := none }) (v := ?_) rfl (by kernel_rfl) (by kernel_rfl) (by kernel_rfl) (fun _ _ _ h => h) (Or.inl ⟨by rfl, ?_⟩) (by assumption) ?_
                rotate_left
                · (intro w hSw; (try dsimp only at hSw); go_simp); (try with_reducible rfl)
                try simp only [Act.put, List.setIfInBounds_toArray, List.set_cons_zero, List.set_cons_succ]
                refine wpAnyH_done (by kernel_rfl) ?_ _
                clear hHeld0
                (go_wp2_with fail; all_goals (go_meet; exact ⟨rfl, rfl⟩))
              case rest =>
                obtain ⟨rfl, rfl⟩ := hcut
                have hr9 := hrx7.drew
                generalize x7.drew = x8 at hr9 ⊢
                clear hrx7 c0
                have hF : fallsC den c = true := by rw [HC2.out]; exact HALL.out gain hga hle
                go_wp2
                go_roundw
                case rel => exact ⟨gain + 1, by go_num, by omega, by omega, hr9⟩
                case measure => simp [intOf]; omega
          · clear HALL
            go_wp2_with fail
            refine (washerPole_any _).mono ?_
            rintro e x9 ⟨rfl, hx9⟩
            go_wp2
            go_ret
            exact ⟨rfl, bthen hV8 (bthen hbr hx9)⟩
    · as_aux_lemma =>
        rw [hr] at tc
        refine tc.mono ?_
        clear tc hr
        rintro e w8 ⟨⟨um, rfl, hum⟩, hb8⟩
        obtain ⟨mb, mo, umc, rfl, hmc⟩ := hum.head (by simp)
        have hm0 := hmc 0 (by simp)
        simp only [Nat.add_zero, List.getElem?_cons_zero, Option.getD_some] at hm0
        clear hmc
        have HALL := Lib.hid hall
        have hb78 := bthen hb7 hb8
        have hV8 := bthen hV hb78
        have hIb := hIb.carry hb78
        have hIc := hIc.carry hb78
        have hId := hId.carry hb78
        have hz := hz.carry hb78
        clear hall hb7 hb8 hb78 hua hub huc hud hIa hbx hV
        simp only [Option.isSome_none, Option.isSome_some, Option.getD_none, Option.getD_some, List.length_nil, List.length_cons, Nat.zero_add]
        go_wp2_with fail
        obtain ⟨first, hfd⟩ : ∃ f, f = 1 + vv % 200 := ⟨_, rfl⟩
        rw [← hfd]
        have hf1 : 1 ≤ first := by omega
        have hf2 : first ≤ 200 := by omega
        clear hfd hvv
        go_loopw [18] (fun g wr => ∃ gain : Int, g = .int .i64 gain ∧ low ≤ gain ∧ gain ≤ high + 1 ∧ Below w8.heap.size w8 wr ∧ gain ≤ m) (fun g _ => (high + 1 - intOf g).toNat)
        case atStart => exact ⟨low, rfl, Int.le_refl _, by omega, Below.refl _ _, hm1⟩
        case round =>
          obtain ⟨gain, rfl, hga, hgb, hbr, hgm⟩ := hrel
          by_cases hle : gain ≤ high
          · have hff := HCP.out.fact (g := gain) ⟨hga, hle⟩
            obtain ⟨c, hcd⟩ : ∃ c, c = gain * num - pole := ⟨_, rfl⟩
            rw [← hcd] at hff
            have HC2 := Lib.hid hcd
            obtain ⟨f1, f2, f3, f4, f5, f6, f7⟩ := hff
            have hcl : closedR [gain] [-pole, den] [num] [1] = [c, den] := by rw [closedR, if_neg (by rw [f1]; simp), f2]
            obtain ⟨P, hP⟩ : ∃ P, P = gain * num := ⟨_, rfl⟩
            rw [← hP] at hcd
            have hw : IntKind.i64.wrap (gain * num) = P := by rw [← hP]; exact IntWalk.i64_in _ (by omega)
            have ht : (c != P - pole) = false := by rw [bne_eq_false_iff_eq]; exact hcd
            have hP1 : -100 ≤ P := by omega
            have hP2 : P ≤ 100 := by omega
            have HFC := Lib.hid hcd
            have HF1 := Lib.hid f1
            have HF3 := Lib.hid f3
            have HCL := Lib.hid hcl
            have z := hz.carry hbr
            have q0 := z.cell (j := 0) rfl
            have q1 := z.cell (j := 1) rfl
            have q2 := z.cell (j := 2) rfl
            have q3 := z.cell (j := 3) rfl
            clear f1 f2 f3 f4 f5 hcd hP hcl
            go_wp2_with fail
            obtain ⟨x1, hx1⟩ : ∃ v, v = World.alloc wr (Obj.cells #[.slice (some ⟨wr.heap.size + 1, 0, none⟩) 1 1, .slice (some ⟨W.heap.size + 1, 0, none⟩) 2 2, .slice (some ⟨W.heap.size + 1 + 1, 0, none⟩) 1 1, .slice (some ⟨W.heap.size + 1 + 1 + 1, 0, none⟩) 1 1] 43) := ⟨_, rfl⟩
            have kx1 : Below wr.heap.size wr x1 := by rw [hx1]; exact below_new _ _
            have ix1 : Blk x1 (wr.heap.size) 43 [.slice (some ⟨wr.heap.size + 1, 0, none⟩) 1 1, .slice (some ⟨W.heap.size + 1, 0, none⟩) 2 2, .slice (some ⟨W.heap.size + 1 + 1, 0, none⟩) 1 1, .slice (some ⟨W.heap.size + 1 + 1 + 1, 0, none⟩) 1 1] := by rw [hx1]; exact Blk.new _ _ _
            have sx1 : x1.heap.size = wr.heap.size + 1 := by rw [hx1]; simp
            rw [← hx1]
            clear hx1
            obtain ⟨x2, hx2⟩ : ∃ v, v = World.alloc x1 (Obj.cells #[.int .i64 gain] 3) := ⟨_, rfl⟩
            have kx2 : Below x1.heap.size x1 x2 := by rw [hx2]; exact below_new _ _
            have ix2 : Blk x2 (wr.heap.size + 1) 3 [.int .i64 gain] := by rw [hx2, ← sx1]; exact Blk.new _ _ _
            have sx2 : x2.heap.size = wr.heap.size + 1 + 1 := by rw [hx2]; simp [sx1]
            rw [← hx2]
            clear hx2
            clear q0 q1 q2 q3
            have hrx := bthen hbr (bthen kx1 kx2)
            have jg : Ints x2 _ [gain] := BlkI.ints (n := 1) (l := [gain]) ix2 rfl
            have zx := ix1.carry kx2
            have q0 := zx.cell (j := 0) rfl
            have q1 := zx.cell (j := 1) rfl
            have q2 := zx.cell (j := 2) rfl
            have q3 := zx.cell (j := 3) rfl
            clear kx1 kx2 ix1 ix2 sx1 sx2 z
            refine (washerLoop_any _ _ _ _ [gain] [-pole, den] [num] [1] x2 jg (hIb.carry hrx) (hIc.carry hrx) (hId.carry hrx) (by simp) (by simp) (by simp) (by simp)).mono ?_
            rintro e x3 ⟨⟨ua', ub', uc', ud', rfl, hua, hub, huc, hud⟩, hx3⟩
            have hrx3 := bthen hrx hx3
            go_wp2_with fail
            have tc := Closed_any ua' ub' uc' ud' [gain] [-pole, den] [num] [1] x3 hua hub huc hud (by simp) (by simp) (by simp) (by simp)
            rw [HF1.out, HCL.out] at tc
            refine tc.mono ?_
            rintro e x4 ⟨⟨uv, rfl, huv⟩, hx4⟩
            have hrx4 := bthen hrx3 hx4
            clear tc hua hub huc hud hrx hrx3 hx3 hx4 jg q0 q1 q2 q3 zx
            obtain ⟨cb, co, cc, rfl, hcc⟩ := (id huv).head (by simp)
            have c0 := hcc 0 (by simp)
            have c1 := hcc 1 (by simp)
            simp only [Nat.add_zero, List.getElem?_cons_zero, List.getElem?_cons_succ, Option.getD_some, List.length_cons, List.length_nil, Nat.zero_add, Nat.reduceAdd] at c0 c1 huv ⊢
            clear hcc
            obtain ⟨i0, hi, hz0, hz1, hz2⟩ := info_parts Try.infoInt
            go_wp2_with (at_builtin; refine wpList_append_fresh rfl (.tmp 147) (.tmp 148) 25 25 3 3 rfl i0 (.int .i64 0) Try.underlying25 Try.underlying25 hi hz0 hz1 hz2 x4.heap.size 0 rfl _ [c, den] rfl (huv.alloc _) (by simp) ?_; intro ba oa ca x5 hia hx5)
            obtain ⟨x6, hx6⟩ : ∃ v, v = World.alloc x5 (Obj.cells #[.int .i64 first] 3) := ⟨_, rfl⟩
            have kx6 : Below x5.heap.size x5 x6 := by rw [hx6]; exact below_new _ _
            have ix6 : Blk x6 (x5.heap.size) 3 [.int .i64 first] := by rw [hx6]; exact Blk.new _ _ _
            have sx6 : x6.heap.size = x5.heap.size + 1 := by rw [hx6]; simp
            rw [← hx6]
            clear hx6
            have hx4 := bthen (below_new x4 (.cells #[] 3)) hx5
            have hrx6 := bthen (bthen hrx4 hx4) kx6
            have huv6 := huv.carry (bthen hx4 kx6)
            have c0 := cellb c0 (bthen hx4 kx6)
            have ts := Stepped_any _ _ [c, den] [first] 4 x6 (hia.carry kx6) (BlkI.ints (n := 1) (l := [first]) ix6 rfl) (by simp) (by simp)
            clear hx4 hx5 kx6 ix6 sx6 hia huv c1 hrx4
            rcases stepped_or c den first ⟨f6, f7⟩ ⟨hf1, hf2⟩ HF3.out with ⟨hE, hR⟩ | hE
            · rw [hE, hR] at ts
              refine ts.mono ?_
              clear ts hE hR
              rintro e x7 ⟨⟨us, rfl, hus⟩, hx7⟩
              have hrx7 := bthen hrx6 hx7
              have c0 := cellb c0 hx7
              clear hx7 hrx6 huv6
              obtain ⟨sb, so, sc, rfl, hsc⟩ := (id hus).head (by simp [geo_length])
              rw [geo_length] at hsc ⊢
              have HS := Lib.hid (fun k hk => (geo_get first (-c) 5 k hk) ▸ hsc k hk)
              have s0 := hsc 0 (by omega)
              rw [Nat.add_zero, geo_get _ _ _ _ (by omega), Int.pow_zero, Int.mul_one] at s0
              clear hsc hus
              go_upto_region 19 with fail
              go_cut [24] from 155 to 164 (fun v24 wx => v24 = .bool (fallsC den c) ∧ wx = x7.drew)
              case first =>
               as_aux_lemma =>
                have hfi := falls_ite den c
                have hnc : IntKind.i64.wrap (-c) = -c := IntWalk.i64_in _ (by omega)
                refine wp_region_held_drew (S := (fun w' => w'.cell? ⟨cb, co, none⟩ = some (.int .i64 c))) (by kernel_rfl) ?_ (fun hHeld0 => ?_)
                · (try dsimp only); go_keep
                refine wpAnyH_take (i := 0) (oi := { dst := some 155, op := Op.move (Operand.tmp 20), type := 25, pos := "top03_wt47d.go:42", after := #[], guard := none }) (v := ?_) rfl (by kernel_rfl) (by kernel_rfl) (by kernel_rfl) (fun _ _ _ h => h) (Or.inl ⟨by rfl, ?_⟩) (by assumption) ?_
                rotate_left
                · (intro w hSw; (try dsimp only at hSw); go_simp); (try with_reducible rfl)
                try simp only [Act.put, List.setIfInBounds_toArray, List.set_cons_zero, List.set_cons_succ]
                refine wpAnyH_take (i := 1) (oi := { dst := some 156, op := Op.indexAddr 25 (Operand.tmp 155) (Operand.const (Value.int IntKind.i64 0)), type := 0, pos := "top03_wt47d.go:42", after := #[{ on := 0, ground := Ground.data }], guard := none }) (v := ?_) rfl (by kernel_rfl) (by kernel_rfl) (by kernel_rfl) (fun _ _ _ h => h) (Or.inl ⟨by rfl, ?_⟩) (by assumption) ?_
                rotate_left
                · (intro w hSw; (try dsimp only at hSw); go_simp); (try with_reducible rfl)
                try simp only [Act.put, List.setIfInBounds_toArray, List.set_cons_zero, List.set_cons_succ]
                refine wpAnyH_take (i := 2) (oi := { dst := some 157, op := Op.load 3 (Operand.tmp 156), type := 3, pos := "top03_wt47d.go:42", after := #[{ on := 1, ground := Ground.data }], guard := none }) (v := ?_) rfl (by kernel_rfl) (by kernel_rfl) (by kernel_rfl) (fun _ _ _ h => h) (Or.inl ⟨by rfl, ?_⟩) (by assumption) ?_
                rotate_left
                · (intro w hSw; (try dsimp only at hSw); go_simp); (try with_reducible rfl)
                try simp only [Act.put, List.setIfInBounds_toArray, List.set_cons_zero, List.set_cons_succ]
                refine wpAnyH_take (i := 3) (oi := { dst := some 158, op := Op.move (Operand.tmp 20), type := 25, pos := "top03_wt47d.go:42", after := #[], guard := none }) (v := ?_) rfl (by kernel_rfl) (by kernel_rfl) (by kernel_rfl) (fun _ _ _ h => h) (Or.inl ⟨by rfl, ?_⟩) (by assumption) ?_
                rotate_left
                · (intro w hSw; (try dsimp only at hSw); go_simp); (try with_reducible rfl)
                try simp only [Act.put, List.setIfInBounds_toArray, List.set_cons_zero, List.set_cons_succ]
                refine wpAnyH_take (i := 4) (oi := { dst := some 159, op := Op.indexAddr 25 (Operand.tmp 158) (Operand.const (Value.int IntKind.i64 0)), type := 0, pos := "top03_wt47d.go:42", after := #[{ on := 3, ground := Ground.data }], guard := none }) (v := ?_) rfl (by kernel_rfl) (by kernel_rfl) (by kernel_rfl) (fun _ _ _ h => h) (Or.inl ⟨by rfl, ?_⟩) (by assumption) ?_
                rotate_left
                · (intro w hSw; (try dsimp only at hSw); go_simp); (try with_reducible rfl)
                try simp only [Act.put, List.setIfInBounds_toArray, List.set_cons_zero, List.set_cons_succ]
                refine wpAnyH_take (i := 5) (oi := { dst := some 160, op := Op.load 3 (Operand.tmp 159), type := 3, pos := "top03_wt47d.go:42", after := #[{ on := 4, ground := Ground.data }], guard := none }) (v := ?_) rfl (by kernel_rfl) (by kernel_rfl) (by kernel_rfl) (fun _ _ _ h => h) (Or.inl ⟨by rfl, ?_⟩) (by assumption) ?_
                rotate_left
                · (intro w hSw; (try dsimp only at hSw); go_simp); (try with_reducible rfl)
                try simp only [Act.put, List.setIfInBounds_toArray, List.set_cons_zero, List.set_cons_succ]
                refine wpAnyH_take (i := 6) (oi := { dst := some 161, op := Op.unOp UnOp.neg 3 (Operand.tmp 160), type := 3, pos := "top03_wt47d.go:42", after := #[{ on := 5, ground := Ground.data }], guard := none }) (v := ?_) rfl (by kernel_rfl) (by kernel_rfl) (by kernel_rfl) (fun _ _ _ h => h) (Or.inl ⟨by rfl, ?_⟩) (by assumption) ?_
                rotate_left
                · (intro w hSw; (try dsimp only at hSw); go_simp); (try with_reducible rfl)
                try simp only [Act.put, List.setIfInBounds_toArray, List.set_cons_zero, List.set_cons_succ]
                refine wpAnyH_take (i := 7) (oi := { dst := some 162, op := Op.call { callee := Callee.builtin Builtin.max, args := #[Operand.tmp 157, Operand.tmp 161], argTypes := #[3, 3] }, type := 3, pos := "top03_wt47d.go:42", after := #[{ on := 2, ground := Ground.data }, { on := 6, ground := Ground.data }], guard := none }) (v := ?_) rfl (by kernel_rfl) (by kernel_rfl) (by kernel_rfl) (fun _ _ _ h => h) (Or.inl ⟨by rfl, ?_⟩) (by assumption) ?_
                rotate_left
                · (intro w hSw; (try dsimp only at hSw); go_simp); (try with_reducible rfl)
                try simp only [Act.put, List.setIfInBounds_toArray, List.set_cons_zero, List.set_cons_succ]
                refine wpAnyH_take (i := 8) (oi := { dst := some 163, op := Op.move (Operand.tmp 7), type := 3, pos := "top03_wt47d.go:42", after := #[], guard := none }) (v := ?_) rfl (by kernel_rfl) (by kernel_rfl) (by kernel_rfl) (fun _ _ _ h => h) (Or.inl ⟨by rfl, ?_⟩) (by assumption) ?_
                rotate_left
                · (intro w hSw; (try dsimp only at hSw); go_simp); (try with_reducible rfl)
                try simp only [Act.put, List.setIfInBounds_toArray, List.set_cons_zero, List.set_cons_succ]
                refine wpAnyH_take (i := 9) (oi := { dst := some 164, op := Op.binOp BinOp.lss 3 (Operand.tmp 162) (Operand.tmp 163) 3, type := 4, pos := "top03_wt47d.go:42", after := #[{ on := 7, ground := Ground.data }, { on := 8, ground := Ground.data }], guard := none }) (v := ?_) rfl (by kernel_rfl) (by kernel_rfl) (by kernel_rfl) (fun _ _ _ h => h) (Or.inl ⟨by rfl, ?_⟩) (by assumption) ?_
                rotate_left
                · (intro w hSw; (try dsimp only at hSw); go_simp); (try with_reducible rfl)
                try simp only [Act.put, List.setIfInBounds_toArray, List.set_cons_zero, List.set_cons_succ]
                refine wpAnyH_take (i := 10) (oi := { dst := some 24, op := Op.assign (Operand.tmp 164), type := 4, pos := "top03_wt47d.go:42", after := #[{ on := 9, ground := Ground.data }, { on := 0, ground := Ground.phase }, { on := 1, ground := Ground.phase }, { on := 2, ground := Ground.phase }, { on := 3, ground := Ground.phase }, { on := 4, ground := Ground.phase }, { on := 5, ground := Ground.phase }, { on := 6, ground := Ground.phase }, { on := 7, ground := Ground.phase }, { on := 8, ground := Ground.phase }, { on := 9, ground := Ground.phase }], guard := none }) (v := ?_) rfl (by kernel_rfl) (by kernel_rfl) (by kernel_rfl) (fun _ _ _ h => h) (Or.inl ⟨by rfl, ?_⟩) (by assumption) ?_
                rotate_left
                · (intro w hSw; (try dsimp only at hSw); go_simp); (try with_reducible rfl)
                try simp only [Act.put, List.setIfInBounds_toArray, List.set_cons_zero, List.set_cons_succ]
                refine wpAnyH_done (by kernel_rfl) ?_ _
                clear hHeld0
                (go_wp2_with fail; all_goals (go_meet; exact ⟨rfl, rfl⟩))
              case rest =>
                obtain ⟨rfl, rfl⟩ := hcut
                have hrx8 := hrx7.drew
                have s0 : x7.drew.cell? ⟨sb, so, none⟩ = some (.int .i64 first) := s0
                have HS : Hid (∀ k, k < 5 → x7.drew.cell? ⟨sb, so + k, none⟩ = some (.int .i64 (first * (-c) ^ k))) := HS
                have c0 : x7.drew.cell? ⟨cb, co, none⟩ = some (.int .i64 c) := c0
                generalize x7.drew = x8 at hrx8 s0 HS c0 ⊢
                clear hrx7
                go_wp2_with fail
                clear s0
                go_loopw [25] (fun tv wr2 => ∃ k : Nat, tv = .int .i64 k ∧ 1 ≤ k ∧ k ≤ 5 ∧ Below x8.heap.size x8 wr2) (fun tv _ => 5 - (intOf tv).toNat)
                case atStart => exact ⟨1, rfl, by omega, by omega, Below.refl _ _⟩
                case round =>
                  obtain ⟨k, rfl, hk1, hk5, hb2⟩ := hrel
                  by_cases hlt : k < 5
                  · have sy := cellb (HS.out k hlt) hb2
                    have sx := cellb (HS.out (k - 1) (by omega)) hb2
                    have c0 := cellb c0 hb2
                    obtain ⟨x, y, ey, ex, hyx, hx0c, e8, e9, e10, e1, e2, hst⟩ := geo_pair c den first ⟨f6, f7⟩ ⟨hd1, hd2⟩ ⟨hf1, hf2⟩ k hk1 hlt
                    rw [ey] at sy
                    rw [ex] at sx
                    have HYX := Lib.hid hyx
                    have HX0 := Lib.hid hx0c
                    have HST := Lib.hid hst
                    clear hyx ey ex hx0c hst
                    have e3 : IntKind.i64.wrap ((k : Int) - 1) = (k : Int) - 1 := IntWalk.i64_in _ (by omega)
                    have e4 : ((k : Int) - 1).toNat = k - 1 := by omega
                    have e5 : (k : Int) < 5 := by omega
                    have e6 : (1 : Int) ≤ (k : Int) := by omega
                    have e7 : (k : Int) - 1 < 5 := by omega
                    clear HS
                    go_upto_region 26 with fail
                    go_cut [232] from 181 to 231 (fun v232 wx => v232 = .bool false ∧ wx = wr.drew)
                    case first =>
                      by_cases hx0 : x = 0
                      · as_aux_lemma =>
                        have hc0 := HX0.out hx0
                        have hy0 : y = 0 := by rw [HYX.out, hx0]; simp
                        have hft : fallsC den 0 = true := by unfold fallsC; simp; omega
                        subst hx0 hc0 hy0
                        have d0 : (0 : Int) < den := by omega
                        have hw0 : IntKind.i64.wrap 0 = 0 := by decide
                        clear e1 e2 e8 e9 e10 HST HYX HX0
                        refine wp_region_held_drew (S := (fun w' => w'.cell? ⟨cb, co, none⟩ = some (.int .i64 0) ∧ w'.cell? ⟨sb, so + k, none⟩ = some (.int .i64 0) ∧ w'.cell? ⟨sb, so + (k - 1), none⟩ = some (.int .i64 0))) (by kernel_rfl) ?_ (fun hHeld0 => ?_)
                        · (try dsimp only); go_keep
                        refine wpAnyH_take (i := 0) (oi := { dst := some 181, op := Op.move (Operand.tmp 22), type := 24, pos := "top03_wt47d.go:48", after := #[], guard := none }) (v := ?_) rfl (by kernel_rfl) (by kernel_rfl) (by kernel_rfl) (fun _ _ _ h => h) (Or.inl ⟨by rfl, ?_⟩) (by assumption) ?_
                        rotate_left
                        · (intro w hSw; (try dsimp only at hSw); go_simp); (try with_reducible rfl)
                        try simp only [Act.put, List.setIfInBounds_toArray, List.set_cons_zero, List.set_cons_succ]
                        refine wpAnyH_take (i := 1) (oi := { dst := some 182, op := Op.move (Operand.tmp 25), type := 3, pos := "top03_wt47d.go:48", after := #[], guard := none }) (v := ?_) rfl (by kernel_rfl) (by kernel_rfl) (by kernel_rfl) (fun _ _ _ h => h) (Or.inl ⟨by rfl, ?_⟩) (by assumption) ?_
                        rotate_left
                        · (intro w hSw; (try dsimp only at hSw); go_simp); (try with_reducible rfl)
                        try simp only [Act.put, List.setIfInBounds_toArray, List.set_cons_zero, List.set_cons_succ]
                        refine wpAnyH_take (i := 2) (oi := { dst := some 183, op := Op.indexAddr 24 (Operand.tmp 181) (Operand.tmp 182), type := 0, pos := "top03_wt47d.go:48", after := #[{ on := 0, ground := Ground.data }, { on := 1, ground := Ground.data }], guard := none }) (v := ?_) rfl (by kernel_rfl) (by kernel_rfl) (by kernel_rfl) (fun _ _ _ h => h) (Or.inl ⟨by rfl, ?_⟩) (by assumption) ?_
                        rotate_left
                        · (intro w hSw; (try dsimp only at hSw); go_simp); (try with_reducible rfl)
                        try simp only [Act.put, List.setIfInBounds_toArray, List.set_cons_zero, List.set_cons_succ]
                        refine wpAnyH_take (i := 3) (oi := { dst := some 184, op := Op.load 3 (Operand.tmp 183), type := 3, pos := "top03_wt47d.go:48", after := #[{ on := 2, ground := Ground.data }], guard := none }) (v := ?_) rfl (by kernel_rfl) (by kernel_rfl) (by kernel_rfl) (fun _ _ _ h => h) (Or.inl ⟨by rfl, ?_⟩) (by assumption) ?_
                        rotate_left
                        · (intro w hSw; (try dsimp only at hSw); go_simp); (try with_reducible rfl)
                        try simp only [Act.put, List.setIfInBounds_toArray, List.set_cons_zero, List.set_cons_succ]
                        refine wpAnyH_take (i := 4) (oi := { dst := some 185, op := Op.move (Operand.tmp 20), type := 25, pos := "top03_wt47d.go:48", after := #[], guard := none }) (v := ?_) rfl (by kernel_rfl) (by kernel_rfl) (by kernel_rfl) (fun _ _ _ h => h) (Or.inl ⟨by rfl, ?_⟩) (by assumption) ?_
                        rotate_left
                        · (intro w hSw; (try dsimp only at hSw); go_simp); (try with_reducible rfl)
                        try simp only [Act.put, List.setIfInBounds_toArray, List.set_cons_zero, List.set_cons_succ]
                        refine wpAnyH_take (i := 5) (oi := { dst := some 186, op := Op.indexAddr 25 (Operand.tmp 185) (Operand.const (Value.int IntKind.i64 0)), type := 0, pos := "top03_wt47d.go:48", after := #[{ on := 4, ground := Ground.data }], guard := none }) (v := ?_) rfl (by kernel_rfl) (by kernel_rfl) (by kernel_rfl) (fun _ _ _ h => h) (Or.inl ⟨by rfl, ?_⟩) (by assumption) ?_
                        rotate_left
                        · (intro w hSw; (try dsimp only at hSw); go_simp); (try with_reducible rfl)
                        try simp only [Act.put, List.setIfInBounds_toArray, List.set_cons_zero, List.set_cons_succ]
                        refine wpAnyH_take (i := 6) (oi := { dst := some 187, op := Op.load 3 (Operand.tmp 186), type := 3, pos := "top03_wt47d.go:48", after := #[{ on := 5, ground := Ground.data }], guard := none }) (v := ?_) rfl (by kernel_rfl) (by kernel_rfl) (by kernel_rfl) (fun _ _ _ h => h) (Or.inl ⟨by rfl, ?_⟩) (by assumption) ?_
                        rotate_left
                        · (intro w hSw; (try dsimp only at hSw); go_simp); (try with_reducible rfl)
                        try simp only [Act.put, List.setIfInBounds_toArray, List.set_cons_zero, List.set_cons_succ]
                        refine wpAnyH_take (i := 7) (oi := { dst := some 188, op := Op.unOp UnOp.neg 3 (Operand.tmp 187), type := 3, pos := "top03_wt47d.go:48", after := #[{ on := 6, ground := Ground.data }], guard := none }) (v := ?_) rfl (by kernel_rfl) (by kernel_rfl) (by kernel_rfl) (fun _ _ _ h => h) (Or.inl ⟨by rfl, ?_⟩) (by assumption) ?_
                        rotate_left
                        · (intro w hSw; (try dsimp only at hSw); go_simp); (try with_reducible rfl)
                        try simp only [Act.put, List.setIfInBounds_toArray, List.set_cons_zero, List.set_cons_succ]
                        refine wpAnyH_take (i := 8) (oi := { dst := some 189, op := Op.move (Operand.tmp 22), type := 24, pos := "top03_wt47d.go:48", after := #[], guard := none }) (v := ?_) rfl (by kernel_rfl) (by kernel_rfl) (by kernel_rfl) (fun _ _ _ h => h) (Or.inl ⟨by rfl, ?_⟩) (by assumption) ?_
                        rotate_left
                        · (intro w hSw; (try dsimp only at hSw); go_simp); (try with_reducible rfl)
                        try simp only [Act.put, List.setIfInBounds_toArray, List.set_cons_zero, List.set_cons_succ]
                        refine wpAnyH_take (i := 9) (oi := { dst := some 190, op := Op.move (Operand.tmp 25), type := 3, pos := "top03_wt47d.go:48", after := #[], guard := none }) (v := ?_) rfl (by kernel_rfl) (by kernel_rfl) (by kernel_rfl) (fun _ _ _ h => h) (Or.inl ⟨by rfl, ?_⟩) (by assumption) ?_
                        rotate_left
                        · (intro w hSw; (try dsimp only at hSw); go_simp); (try with_reducible rfl)
                        try simp only [Act.put, List.setIfInBounds_toArray, List.set_cons_zero, List.set_cons_succ]
                        refine wpAnyH_take (i := 10) (oi := { dst := some 191, op := Op.binOp BinOp.sub 3 (Operand.tmp 190) (Operand.const (Value.int IntKind.i64 1)) 3, type := 3, pos := "top03_wt47d.go:48", after := #[{ on := 9, ground := Ground.data }], guard := none }) (v := ?_) rfl (by kernel_rfl) (by kernel_rfl) (by kernel_rfl) (fun _ _ _ h => h) (Or.inl ⟨by rfl, ?_⟩) (by assumption) ?_
                        rotate_left
                        · (intro w hSw; (try dsimp only at hSw); go_simp); (try with_reducible rfl)
                        try simp only [Act.put, List.setIfInBounds_toArray, List.set_cons_zero, List.set_cons_succ]
                        refine wpAnyH_take (i := 11) (oi := { dst := some 192, op := Op.indexAddr 24 (Operand.tmp 189) (Operand.tmp 191), type := 0, pos := "top03_wt47d.go:48", after := #[{ on := 8, ground := Ground.data }, { on := 10, ground := Ground.data }], guard := none }) (v := ?_) rfl (by kernel_rfl) (by kernel_rfl) (by kernel_rfl) (fun _ _ _ h => h) (Or.inl ⟨by rfl, ?_⟩) (by assumption) ?_
                        rotate_left
                        · (intro w hSw; (try dsimp only at hSw); go_simp); (try with_reducible rfl)
                        try simp only [Act.put, List.setIfInBounds_toArray, List.set_cons_zero, List.set_cons_succ]
                        refine wpAnyH_take (i := 12) (oi := { dst := some 193, op := Op.load 3 (Operand.tmp 192), type := 3, pos := "top03_wt47d.go:48", after := #[{ on := 11, ground := Ground.data }], guard := none }) (v := ?_) rfl (by kernel_rfl) (by kernel_rfl) (by kernel_rfl) (fun _ _ _ h => h) (Or.inl ⟨by rfl, ?_⟩) (by assumption) ?_
                        rotate_left
                        · (intro w hSw; (try dsimp only at hSw); go_simp); (try with_reducible rfl)
                        try simp only [Act.put, List.setIfInBounds_toArray, List.set_cons_zero, List.set_cons_succ]
                        refine wpAnyH_take (i := 13) (oi := { dst := some 194, op := Op.binOp BinOp.mul 3 (Operand.tmp 188) (Operand.tmp 193) 3, type := 3, pos := "top03_wt47d.go:48", after := #[{ on := 7, ground := Ground.data }, { on := 12, ground := Ground.data }], guard := none }) (v := ?_) rfl (by kernel_rfl) (by kernel_rfl) (by kernel_rfl) (fun _ _ _ h => h) (Or.inl ⟨by rfl, ?_⟩) (by assumption) ?_
                        rotate_left
                        · (intro w hSw; (try dsimp only at hSw); go_simp); (try with_reducible rfl)
                        try simp only [Act.put, List.setIfInBounds_toArray, List.set_cons_zero, List.set_cons_succ]
                        refine wpAnyH_take (i := 14) (oi := { dst := some 195, op := Op.binOp BinOp.neq 3 (Operand.tmp 184) (Operand.tmp 194) 3, type := 4, pos := "top03_wt47d.go:48", after := #[{ on := 3, ground := Ground.data }, { on := 13, ground := Ground.data }], guard := none }) (v := ?_) rfl (by kernel_rfl) (by kernel_rfl) (by kernel_rfl) (fun _ _ _ h => h) (Or.inl ⟨by rfl, ?_⟩) (by assumption) ?_
                        rotate_left
                        · (intro w hSw; (try dsimp only at hSw); go_simp); (try with_reducible rfl)
                        try simp only [Act.put, List.setIfInBounds_toArray, List.set_cons_zero, List.set_cons_succ]
                        refine wpAnyH_take (i := 15) (oi := { dst := some 196, op := Op.move (Operand.tmp 195), type := 4, pos := "top03_wt47d.go:48", after := #[{ on := 14, ground := Ground.data }], guard := none }) (v := ?_) rfl (by kernel_rfl) (by kernel_rfl) (by kernel_rfl) (fun _ _ _ h => h) (Or.inl ⟨by rfl, ?_⟩) (by assumption) ?_
                        rotate_left
                        · (intro w hSw; (try dsimp only at hSw); go_simp); (try with_reducible rfl)
                        try simp only [Act.put, List.setIfInBounds_toArray, List.set_cons_zero, List.set_cons_succ]
                        refine wpAnyH_take (i := 16) (oi := { dst := some 197, op := Op.move (Operand.tmp 24), type := 4, pos := "top03_wt47d.go:48", after := #[{ on := 15, ground := Ground.guard }], guard := some (15, false) }) (v := ?_) rfl (by kernel_rfl) (by kernel_rfl) (by kernel_rfl) (fun _ _ _ h => h) (Or.inl ⟨by rfl, ?_⟩) (by assumption) ?_
                        rotate_left
                        · (intro w hSw; (try dsimp only at hSw); go_simp); (try with_reducible rfl)
                        try simp only [Act.put, List.setIfInBounds_toArray, List.set_cons_zero, List.set_cons_succ]
                        refine wpAnyH_take (i := 17) (oi := { dst := some 198, op := Op.move (Operand.tmp 22), type := 24, pos := "top03_wt47d.go:48", after := #[{ on := 15, ground := Ground.guard }], guard := some (15, false) }) (v := ?_) rfl (by kernel_rfl) (by kernel_rfl) (by kernel_rfl) (fun _ _ _ h => h) (Or.inl ⟨by rfl, ?_⟩) (by assumption) ?_
                        rotate_left
                        · (intro w hSw; (try dsimp only at hSw); go_simp); (try with_reducible rfl)
                        try simp only [Act.put, List.setIfInBounds_toArray, List.set_cons_zero, List.set_cons_succ]
                        refine wpAnyH_take (i := 18) (oi := { dst := some 199, op := Op.move (Operand.tmp 25), type := 3, pos := "top03_wt47d.go:48", after := #[{ on := 15, ground := Ground.guard }], guard := some (15, false) }) (v := ?_) rfl (by kernel_rfl) (by kernel_rfl) (by kernel_rfl) (fun _ _ _ h => h) (Or.inl ⟨by rfl, ?_⟩) (by assumption) ?_
                        rotate_left
                        · (intro w hSw; (try dsimp only at hSw); go_simp); (try with_reducible rfl)
                        try simp only [Act.put, List.setIfInBounds_toArray, List.set_cons_zero, List.set_cons_succ]
                        refine wpAnyH_take (i := 19) (oi := { dst := some 200, op := Op.indexAddr 24 (Operand.tmp 198) (Operand.tmp 199), type := 0, pos := "top03_wt47d.go:48", after := #[{ on := 17, ground := Ground.data }, { on := 18, ground := Ground.data }, { on := 15, ground := Ground.guard }], guard := some (15, false) }) (v := ?_) rfl (by kernel_rfl) (by kernel_rfl) (by kernel_rfl) (fun _ _ _ h => h) (Or.inl ⟨by rfl, ?_⟩) (by assumption) ?_
                        rotate_left
                        · (intro w hSw; (try dsimp only at hSw); go_simp); (try with_reducible rfl)
                        try simp only [Act.put, List.setIfInBounds_toArray, List.set_cons_zero, List.set_cons_succ]
                        refine wpAnyH_take (i := 20) (oi := { dst := some 201, op := Op.load 3 (Operand.tmp 200), type := 3, pos := "top03_wt47d.go:48", after := #[{ on := 19, ground := Ground.data }, { on := 15, ground := Ground.guard }], guard := some (15, false) }) (v := ?_) rfl (by kernel_rfl) (by kernel_rfl) (by kernel_rfl) (fun _ _ _ h => h) (Or.inl ⟨by rfl, ?_⟩) (by assumption) ?_
                        rotate_left
                        · (intro w hSw; (try dsimp only at hSw); go_simp); (try with_reducible rfl)
                        try simp only [Act.put, List.setIfInBounds_toArray, List.set_cons_zero, List.set_cons_succ]
                        refine wpAnyH_take (i := 21) (oi := { dst := some 202, op := Op.move (Operand.tmp 22), type := 24, pos := "top03_wt47d.go:48", after := #[{ on := 15, ground := Ground.guard }], guard := some (15, false) }) (v := ?_) rfl (by kernel_rfl) (by kernel_rfl) (by kernel_rfl) (fun _ _ _ h => h) (Or.inl ⟨by rfl, ?_⟩) (by assumption) ?_
                        rotate_left
                        · (intro w hSw; (try dsimp only at hSw); go_simp); (try with_reducible rfl)
                        try simp only [Act.put, List.setIfInBounds_toArray, List.set_cons_zero, List.set_cons_succ]
                        refine wpAnyH_take (i := 22) (oi := { dst := some 203, op := Op.move (Operand.tmp 25), type := 3, pos := "top03_wt47d.go:48", after := #[{ on := 15, ground := Ground.guard }], guard := some (15, false) }) (v := ?_) rfl (by kernel_rfl) (by kernel_rfl) (by kernel_rfl) (fun _ _ _ h => h) (Or.inl ⟨by rfl, ?_⟩) (by assumption) ?_
                        rotate_left
                        · (intro w hSw; (try dsimp only at hSw); go_simp); (try with_reducible rfl)
                        try simp only [Act.put, List.setIfInBounds_toArray, List.set_cons_zero, List.set_cons_succ]
                        refine wpAnyH_take (i := 23) (oi := { dst := some 204, op := Op.indexAddr 24 (Operand.tmp 202) (Operand.tmp 203), type := 0, pos := "top03_wt47d.go:48", after := #[{ on := 21, ground := Ground.data }, { on := 22, ground := Ground.data }, { on := 15, ground := Ground.guard }], guard := some (15, false) }) (v := ?_) rfl (by kernel_rfl) (by kernel_rfl) (by kernel_rfl) (fun _ _ _ h => h) (Or.inl ⟨by rfl, ?_⟩) (by assumption) ?_
                        rotate_left
                        · (intro w hSw; (try dsimp only at hSw); go_simp); (try with_reducible rfl)
                        try simp only [Act.put, List.setIfInBounds_toArray, List.set_cons_zero, List.set_cons_succ]
                        refine wpAnyH_take (i := 24) (oi := { dst := some 205, op := Op.load 3 (Operand.tmp 204), type := 3, pos := "top03_wt47d.go:48", after := #[{ on := 23, ground := Ground.data }, { on := 15, ground := Ground.guard }], guard := some (15, false) }) (v := ?_) rfl (by kernel_rfl) (by kernel_rfl) (by kernel_rfl) (fun _ _ _ h => h) (Or.inl ⟨by rfl, ?_⟩) (by assumption) ?_
                        rotate_left
                        · (intro w hSw; (try dsimp only at hSw); go_simp); (try with_reducible rfl)
                        try simp only [Act.put, List.setIfInBounds_toArray, List.set_cons_zero, List.set_cons_succ]
                        refine wpAnyH_take (i := 25) (oi := { dst := some 206, op := Op.unOp UnOp.neg 3 (Operand.tmp 205), type := 3, pos := "top03_wt47d.go:48", after := #[{ on := 24, ground := Ground.data }, { on := 15, ground := Ground.guard }], guard := some (15, false) }) (v := ?_) rfl (by kernel_rfl) (by kernel_rfl) (by kernel_rfl) (fun _ _ _ h => h) (Or.inl ⟨by rfl, ?_⟩) (by assumption) ?_
                        rotate_left
                        · (intro w hSw; (try dsimp only at hSw); go_simp); (try with_reducible rfl)
                        try simp only [Act.put, List.setIfInBounds_toArray, List.set_cons_zero, List.set_cons_succ]
                        refine wpAnyH_take (i := 26) (oi := { dst := some 207, op := Op.call { callee := Callee.builtin Builtin.max, args := #[Operand.tmp 201, Operand.tmp 206], argTypes := #[3, 3] }, type := 3, pos := "top03_wt47d.go:48", after := #[{ on := 20, ground := Ground.data }, { on := 25, ground := Ground.data }, { on := 15, ground := Ground.guard }], guard := some (15, false) }) (v := ?_) rfl (by kernel_rfl) (by kernel_rfl) (by kernel_rfl) (fun _ _ _ h => h) (Or.inl ⟨by rfl, ?_⟩) (by assumption) ?_
                        rotate_left
                        · (intro w hSw; (try dsimp only at hSw); go_simp); (try with_reducible rfl)
                        try simp only [Act.put, List.setIfInBounds_toArray, List.set_cons_zero, List.set_cons_succ]
                        refine wpAnyH_take (i := 27) (oi := { dst := some 208, op := Op.move (Operand.tmp 7), type := 3, pos := "top03_wt47d.go:48", after := #[{ on := 15, ground := Ground.guard }], guard := some (15, false) }) (v := ?_) rfl (by kernel_rfl) (by kernel_rfl) (by kernel_rfl) (fun _ _ _ h => h) (Or.inl ⟨by rfl, ?_⟩) (by assumption) ?_
                        rotate_left
                        · (intro w hSw; (try dsimp only at hSw); go_simp); (try with_reducible rfl)
                        try simp only [Act.put, List.setIfInBounds_toArray, List.set_cons_zero, List.set_cons_succ]
                        refine wpAnyH_take (i := 28) (oi := { dst := some 209, op := Op.move (Operand.tmp 22), type := 24, pos := "top03_wt47d.go:48", after := #[{ on := 15, ground := Ground.guard }], guard := some (15, false) }) (v := ?_) rfl (by kernel_rfl) (by kernel_rfl) (by kernel_rfl) (fun _ _ _ h => h) (Or.inl ⟨by rfl, ?_⟩) (by assumption) ?_
                        rotate_left
                        · (intro w hSw; (try dsimp only at hSw); go_simp); (try with_reducible rfl)
                        try simp only [Act.put, List.setIfInBounds_toArray, List.set_cons_zero, List.set_cons_succ]
                        refine wpAnyH_take (i := 29) (oi := { dst := some 210, op := Op.move (Operand.tmp 25), type := 3, pos := "top03_wt47d.go:48", after := #[{ on := 15, ground := Ground.guard }], guard := some (15, false) }) (v := ?_) rfl (by kernel_rfl) (by kernel_rfl) (by kernel_rfl) (fun _ _ _ h => h) (Or.inl ⟨by rfl, ?_⟩) (by assumption) ?_
                        rotate_left
                        · (intro w hSw; (try dsimp only at hSw); go_simp); (try with_reducible rfl)
                        try simp only [Act.put, List.setIfInBounds_toArray, List.set_cons_zero, List.set_cons_succ]
                        refine wpAnyH_take (i := 30) (oi := { dst := some 211, op := Op.binOp BinOp.sub 3 (Operand.tmp 210) (Operand.const (Value.int IntKind.i64 1)) 3, type := 3, pos := "top03_wt47d.go:48", after := #[{ on := 29, ground := Ground.data }, { on := 15, ground := Ground.guard }], guard := some (15, false) }) (v := ?_) rfl (by kernel_rfl) (by kernel_rfl) (by kernel_rfl) (fun _ _ _ h => h) (Or.inl ⟨by rfl, ?_⟩) (by assumption) ?_
                        rotate_left
                        · (intro w hSw; (try dsimp only at hSw); go_simp); (try with_reducible rfl)
                        try simp only [Act.put, List.setIfInBounds_toArray, List.set_cons_zero, List.set_cons_succ]
                        refine wpAnyH_take (i := 31) (oi := { dst := some 212, op := Op.indexAddr 24 (Operand.tmp 209) (Operand.tmp 211), type := 0, pos := "top03_wt47d.go:48", after := #[{ on := 28, ground := Ground.data }, { on := 30, ground := Ground.data }, { on := 15, ground := Ground.guard }], guard := some (15, false) }) (v := ?_) rfl (by kernel_rfl) (by kernel_rfl) (by kernel_rfl) (fun _ _ _ h => h) (Or.inl ⟨by rfl, ?_⟩) (by assumption) ?_
                        rotate_left
                        · (intro w hSw; (try dsimp only at hSw); go_simp); (try with_reducible rfl)
                        try simp only [Act.put, List.setIfInBounds_toArray, List.set_cons_zero, List.set_cons_succ]
                        refine wpAnyH_take (i := 32) (oi := { dst := some 213, op := Op.load 3 (Operand.tmp 212), type := 3, pos := "top03_wt47d.go:48", after := #[{ on := 31, ground := Ground.data }, { on := 15, ground := Ground.guard }], guard := some (15, false) }) (v := ?_) rfl (by kernel_rfl) (by kernel_rfl) (by kernel_rfl) (fun _ _ _ h => h) (Or.inl ⟨by rfl, ?_⟩) (by assumption) ?_
                        rotate_left
                        · (intro w hSw; (try dsimp only at hSw); go_simp); (try with_reducible rfl)
                        try simp only [Act.put, List.setIfInBounds_toArray, List.set_cons_zero, List.set_cons_succ]
                        refine wpAnyH_take (i := 33) (oi := { dst := some 214, op := Op.move (Operand.tmp 22), type := 24, pos := "top03_wt47d.go:48", after := #[{ on := 15, ground := Ground.guard }], guard := some (15, false) }) (v := ?_) rfl (by kernel_rfl) (by kernel_rfl) (by kernel_rfl) (fun _ _ _ h => h) (Or.inl ⟨by rfl, ?_⟩) (by assumption) ?_
                        rotate_left
                        · (intro w hSw; (try dsimp only at hSw); go_simp); (try with_reducible rfl)
                        try simp only [Act.put, List.setIfInBounds_toArray, List.set_cons_zero, List.set_cons_succ]
                        refine wpAnyH_take (i := 34) (oi := { dst := some 215, op := Op.move (Operand.tmp 25), type := 3, pos := "top03_wt47d.go:48", after := #[{ on := 15, ground := Ground.guard }], guard := some (15, false) }) (v := ?_) rfl (by kernel_rfl) (by kernel_rfl) (by kernel_rfl) (fun _ _ _ h => h) (Or.inl ⟨by rfl, ?_⟩) (by assumption) ?_
                        rotate_left
                        · (intro w hSw; (try dsimp only at hSw); go_simp); (try with_reducible rfl)
                        try simp only [Act.put, List.setIfInBounds_toArray, List.set_cons_zero, List.set_cons_succ]
                        refine wpAnyH_take (i := 35) (oi := { dst := some 216, op := Op.binOp BinOp.sub 3 (Operand.tmp 215) (Operand.const (Value.int IntKind.i64 1)) 3, type := 3, pos := "top03_wt47d.go:48", after := #[{ on := 34, ground := Ground.data }, { on := 15, ground := Ground.guard }], guard := some (15, false) }) (v := ?_) rfl (by kernel_rfl) (by kernel_rfl) (by kernel_rfl) (fun _ _ _ h => h) (Or.inl ⟨by rfl, ?_⟩) (by assumption) ?_
                        rotate_left
                        · (intro w hSw; (try dsimp only at hSw); go_simp); (try with_reducible rfl)
                        try simp only [Act.put, List.setIfInBounds_toArray, List.set_cons_zero, List.set_cons_succ]
                        refine wpAnyH_take (i := 36) (oi := { dst := some 217, op := Op.indexAddr 24 (Operand.tmp 214) (Operand.tmp 216), type := 0, pos := "top03_wt47d.go:48", after := #[{ on := 33, ground := Ground.data }, { on := 35, ground := Ground.data }, { on := 15, ground := Ground.guard }], guard := some (15, false) }) (v := ?_) rfl (by kernel_rfl) (by kernel_rfl) (by kernel_rfl) (fun _ _ _ h => h) (Or.inl ⟨by rfl, ?_⟩) (by assumption) ?_
                        rotate_left
                        · (intro w hSw; (try dsimp only at hSw); go_simp); (try with_reducible rfl)
                        try simp only [Act.put, List.setIfInBounds_toArray, List.set_cons_zero, List.set_cons_succ]
                        refine wpAnyH_take (i := 37) (oi := { dst := some 218, op := Op.load 3 (Operand.tmp 217), type := 3, pos := "top03_wt47d.go:48", after := #[{ on := 36, ground := Ground.data }, { on := 15, ground := Ground.guard }], guard := some (15, false) }) (v := ?_) rfl (by kernel_rfl) (by kernel_rfl) (by kernel_rfl) (fun _ _ _ h => h) (Or.inl ⟨by rfl, ?_⟩) (by assumption) ?_
                        rotate_left
                        · (intro w hSw; (try dsimp only at hSw); go_simp); (try with_reducible rfl)
                        try simp only [Act.put, List.setIfInBounds_toArray, List.set_cons_zero, List.set_cons_succ]
                        refine wpAnyH_take (i := 38) (oi := { dst := some 219, op := Op.unOp UnOp.neg 3 (Operand.tmp 218), type := 3, pos := "top03_wt47d.go:48", after := #[{ on := 37, ground := Ground.data }, { on := 15, ground := Ground.guard }], guard := some (15, false) }) (v := ?_) rfl (by kernel_rfl) (by kernel_rfl) (by kernel_rfl) (fun _ _ _ h => h) (Or.inl ⟨by rfl, ?_⟩) (by assumption) ?_
                        rotate_left
                        · (intro w hSw; (try dsimp only at hSw); go_simp); (try with_reducible rfl)
                        try simp only [Act.put, List.setIfInBounds_toArray, List.set_cons_zero, List.set_cons_succ]
                        refine wpAnyH_take (i := 39) (oi := { dst := some 220, op := Op.call { callee := Callee.builtin Builtin.max, args := #[Operand.tmp 213, Operand.tmp 219], argTypes := #[3, 3] }, type := 3, pos := "top03_wt47d.go:48", after := #[{ on := 32, ground := Ground.data }, { on := 38, ground := Ground.data }, { on := 15, ground := Ground.guard }], guard := some (15, false) }) (v := ?_) rfl (by kernel_rfl) (by kernel_rfl) (by kernel_rfl) (fun _ _ _ h => h) (Or.inl ⟨by rfl, ?_⟩) (by assumption) ?_
                        rotate_left
                        · (intro w hSw; (try dsimp only at hSw); go_simp); (try with_reducible rfl)
                        try simp only [Act.put, List.setIfInBounds_toArray, List.set_cons_zero, List.set_cons_succ]
                        refine wpAnyH_take (i := 40) (oi := { dst := some 221, op := Op.binOp BinOp.mul 3 (Operand.tmp 208) (Operand.tmp 220) 3, type := 3, pos := "top03_wt47d.go:48", after := #[{ on := 27, ground := Ground.data }, { on := 39, ground := Ground.data }, { on := 15, ground := Ground.guard }], guard := some (15, false) }) (v := ?_) rfl (by kernel_rfl) (by kernel_rfl) (by kernel_rfl) (fun _ _ _ h => h) (Or.inl ⟨by rfl, ?_⟩) (by assumption) ?_
                        rotate_left
                        · (intro w hSw; (try dsimp only at hSw); go_simp); (try with_reducible rfl)
                        try simp only [Act.put, List.setIfInBounds_toArray, List.set_cons_zero, List.set_cons_succ]
                        refine wpAnyH_take (i := 41) (oi := { dst := some 222, op := Op.binOp BinOp.lss 3 (Operand.tmp 207) (Operand.tmp 221) 3, type := 4, pos := "top03_wt47d.go:48", after := #[{ on := 26, ground := Ground.data }, { on := 40, ground := Ground.data }, { on := 15, ground := Ground.guard }], guard := some (15, false) }) (v := ?_) rfl (by kernel_rfl) (by kernel_rfl) (by kernel_rfl) (fun _ _ _ h => h) (Or.inl ⟨by rfl, ?_⟩) (by assumption) ?_
                        rotate_left
                        · (intro w hSw; (try dsimp only at hSw); go_simp); (try with_reducible rfl)
                        try simp only [Act.put, List.setIfInBounds_toArray, List.set_cons_zero, List.set_cons_succ]
                        refine wpAnyH_take (i := 42) (oi := { dst := some 223, op := Op.binOp BinOp.neq 4 (Operand.tmp 197) (Operand.tmp 222) 4, type := 4, pos := "top03_wt47d.go:48", after := #[{ on := 16, ground := Ground.data }, { on := 41, ground := Ground.data }, { on := 15, ground := Ground.guard }], guard := some (15, false) }) (v := ?_) rfl (by kernel_rfl) (by kernel_rfl) (by kernel_rfl) (fun _ _ _ h => h) (Or.inl ⟨by rfl, ?_⟩) (by assumption) ?_
                        rotate_left
                        · (intro w hSw; (try dsimp only at hSw); go_simp); (try with_reducible rfl)
                        try simp only [Act.put, List.setIfInBounds_toArray, List.set_cons_zero, List.set_cons_succ]
                        refine wpAnyH_take (i := 43) (oi := { dst := some 224, op := Op.move (Operand.tmp 223), type := 4, pos := "top03_wt47d.go:48", after := #[{ on := 42, ground := Ground.data }, { on := 15, ground := Ground.chain }, { on := 15, ground := Ground.guard }], guard := some (15, false) }) (v := ?_) rfl (by kernel_rfl) (by kernel_rfl) (by kernel_rfl) (fun _ _ _ h => h) (Or.inl ⟨by rfl, ?_⟩) (by assumption) ?_
                        rotate_left
                        · (intro w hSw; (try dsimp only at hSw); go_simp); (try with_reducible rfl)
                        try simp only [Act.put, List.setIfInBounds_toArray, List.set_cons_zero, List.set_cons_succ]
                        refine wpAnyH_take (i := 44) (oi := { dst := some 225, op := Op.move (Operand.tmp 22), type := 24, pos := "top03_wt47d.go:48", after := #[{ on := 43, ground := Ground.guard }], guard := some (43, true) }) (v := ?_) rfl (by kernel_rfl) (by kernel_rfl) (by kernel_rfl) (fun _ _ _ h => h) (Or.inl ⟨by rfl, ?_⟩) (by assumption) ?_
                        rotate_left
                        · (intro w hSw; (try dsimp only at hSw); go_simp); (try with_reducible rfl)
                        try simp only [Act.put, List.setIfInBounds_toArray, List.set_cons_zero, List.set_cons_succ]
                        refine wpAnyH_take (i := 45) (oi := { dst := some 226, op := Op.move (Operand.tmp 25), type := 3, pos := "top03_wt47d.go:48", after := #[{ on := 43, ground := Ground.guard }], guard := some (43, true) }) (v := ?_) rfl (by kernel_rfl) (by kernel_rfl) (by kernel_rfl) (fun _ _ _ h => h) (Or.inl ⟨by rfl, ?_⟩) (by assumption) ?_
                        rotate_left
                        · (intro w hSw; (try dsimp only at hSw); go_simp); (try with_reducible rfl)
                        try simp only [Act.put, List.setIfInBounds_toArray, List.set_cons_zero, List.set_cons_succ]
                        refine wpAnyH_take (i := 46) (oi := { dst := some 227, op := Op.binOp BinOp.sub 3 (Operand.tmp 226) (Operand.const (Value.int IntKind.i64 1)) 3, type := 3, pos := "top03_wt47d.go:48", after := #[{ on := 45, ground := Ground.data }, { on := 43, ground := Ground.guard }], guard := some (43, true) }) (v := ?_) rfl (by kernel_rfl) (by kernel_rfl) (by kernel_rfl) (fun _ _ _ h => h) (Or.inl ⟨by rfl, ?_⟩) (by assumption) ?_
                        rotate_left
                        · (intro w hSw; (try dsimp only at hSw); go_simp); (try with_reducible rfl)
                        try simp only [Act.put, List.setIfInBounds_toArray, List.set_cons_zero, List.set_cons_succ]
                        refine wpAnyH_take (i := 47) (oi := { dst := some 228, op := Op.indexAddr 24 (Operand.tmp 225) (Operand.tmp 227), type := 0, pos := "top03_wt47d.go:48", after := #[{ on := 44, ground := Ground.data }, { on := 46, ground := Ground.data }, { on := 43, ground := Ground.guard }], guard := some (43, true) }) (v := ?_) rfl (by kernel_rfl) (by kernel_rfl) (by kernel_rfl) (fun _ _ _ h => h) (Or.inl ⟨by rfl, ?_⟩) (by assumption) ?_
                        rotate_left
                        · (intro w hSw; (try dsimp only at hSw); go_simp); (try with_reducible rfl)
                        try simp only [Act.put, List.setIfInBounds_toArray, List.set_cons_zero, List.set_cons_succ]
                        refine wpAnyH_take (i := 48) (oi := { dst := some 229, op := Op.load 3 (Operand.tmp 228), type := 3, pos := "top03_wt47d.go:48", after := #[{ on := 47, ground := Ground.data }, { on := 43, ground := Ground.guard }], guard := some (43, true) }) (v := ?_) rfl (by kernel_rfl) (by kernel_rfl) (by kernel_rfl) (fun _ _ _ h => h) (Or.inl ⟨by rfl, ?_⟩) (by assumption) ?_
                        rotate_left
                        · (intro w hSw; (try dsimp only at hSw); go_simp); (try with_reducible rfl)
                        try simp only [Act.put, List.setIfInBounds_toArray, List.set_cons_zero, List.set_cons_succ]
                        refine wpAnyH_take (i := 49) (oi := { dst := some 230, op := Op.binOp BinOp.neq 3 (Operand.tmp 229) (Operand.const (Value.int IntKind.i64 0)) 3, type := 4, pos := "top03_wt47d.go:48", after := #[{ on := 48, ground := Ground.data }, { on := 43, ground := Ground.guard }], guard := some (43, true) }) (v := ?_) rfl (by kernel_rfl) (by kernel_rfl) (by kernel_rfl) (fun _ _ _ h => h) (Or.inl ⟨by rfl, ?_⟩) (by assumption) ?_
                        rotate_left
                        · (intro w hSw; (try dsimp only at hSw); go_simp); (try with_reducible rfl)
                        try simp only [Act.put, List.setIfInBounds_toArray, List.set_cons_zero, List.set_cons_succ]
                        refine wpAnyH_take (i := 50) (oi := { dst := some 231, op := Op.pick (Operand.tmp 224) (Operand.tmp 230) (Operand.const (Value.bool false)), type := 4, pos := "top03_wt47d.go:48", after := #[{ on := 43, ground := Ground.data }, { on := 49, ground := Ground.data }, { on := 15, ground := Ground.guard }], guard := some (15, false) }) (v := ?_) rfl (by kernel_rfl) (by kernel_rfl) (by kernel_rfl) (fun _ _ _ h => h) (Or.inl ⟨by rfl, ?_⟩) (by assumption) ?_
                        rotate_left
                        · (intro w hSw; (try dsimp only at hSw); go_simp); (try with_reducible rfl)
                        try simp only [Act.put, List.setIfInBounds_toArray, List.set_cons_zero, List.set_cons_succ]
                        refine wpAnyH_take (i := 51) (oi := { dst := some 232, op := Op.pick (Operand.tmp 196) (Operand.const (Value.bool true)) (Operand.tmp 231), type := 4, pos := "top03_wt47d.go:48", after := #[{ on := 15, ground := Ground.data }, { on := 50, ground := Ground.data }], guard := none }) (v := ?_) rfl (by kernel_rfl) (by kernel_rfl) (by kernel_rfl) (fun _ _ _ h => h) (Or.inl ⟨by rfl, ?_⟩) (by assumption) ?_
                        rotate_left
                        · (intro w hSw; (try dsimp only at hSw); go_simp); (try with_reducible rfl)
                        try simp only [Act.put, List.setIfInBounds_toArray, List.set_cons_zero, List.set_cons_succ]
                        refine wpAnyH_done (by kernel_rfl) ?_ _
                        clear hHeld0
                        (go_wp2_with fail; all_goals (go_meet; exact ⟨rfl, rfl⟩))
                      · as_aux_lemma =>
                        have hstep := HST.out hx0
                        have hx00 : (x != 0) = true := by simpa using hx0
                        refine wp_region_held_drew (S := (fun w' => w'.cell? ⟨cb, co, none⟩ = some (.int .i64 c) ∧ w'.cell? ⟨sb, so + k, none⟩ = some (.int .i64 y) ∧ w'.cell? ⟨sb, so + (k - 1), none⟩ = some (.int .i64 x))) (by kernel_rfl) ?_ (fun hHeld0 => ?_)
                        · (try dsimp only); go_keep
                        refine wpAnyH_take (i := 0) (oi := { dst := some 181, op := Op.move (Operand.tmp 22), type := 24, pos := "top03_wt47d.go:48", after := #[], guard := none }) (v := ?_) rfl (by kernel_rfl) (by kernel_rfl) (by kernel_rfl) (fun _ _ _ h => h) (Or.inl ⟨by rfl, ?_⟩) (by assumption) ?_
                        rotate_left
                        · (intro w hSw; (try dsimp only at hSw); go_simp); (try with_reducible rfl)
                        try simp only [Act.put, List.setIfInBounds_toArray, List.set_cons_zero, List.set_cons_succ]
                        refine wpAnyH_take (i := 1) (oi := { dst := some 182, op := Op.move (Operand.tmp 25), type := 3, pos := "top03_wt47d.go:48", after := #[], guard := none }) (v := ?_) rfl (by kernel_rfl) (by kernel_rfl) (by kernel_rfl) (fun _ _ _ h => h) (Or.inl ⟨by rfl, ?_⟩) (by assumption) ?_
                        rotate_left
                        · (intro w hSw; (try dsimp only at hSw); go_simp); (try with_reducible rfl)
                        try simp only [Act.put, List.setIfInBounds_toArray, List.set_cons_zero, List.set_cons_succ]
                        refine wpAnyH_take (i := 2) (oi := { dst := some 183, op := Op.indexAddr 24 (Operand.tmp 181) (Operand.tmp 182), type := 0, pos := "top03_wt47d.go:48", after := #[{ on := 0, ground := Ground.data }, { on := 1, ground := Ground.data }], guard := none }) (v := ?_) rfl (by kernel_rfl) (by kernel_rfl) (by kernel_rfl) (fun _ _ _ h => h) (Or.inl ⟨by rfl, ?_⟩) (by assumption) ?_
                        rotate_left
                        · (intro w hSw; (try dsimp only at hSw); go_simp); (try with_reducible rfl)
                        try simp only [Act.put, List.setIfInBounds_toArray, List.set_cons_zero, List.set_cons_succ]
                        refine wpAnyH_take (i := 3) (oi := { dst := some 184, op := Op.load 3 (Operand.tmp 183), type := 3, pos := "top03_wt47d.go:48", after := #[{ on := 2, ground := Ground.data }], guard := none }) (v := ?_) rfl (by kernel_rfl) (by kernel_rfl) (by kernel_rfl) (fun _ _ _ h => h) (Or.inl ⟨by rfl, ?_⟩) (by assumption) ?_
                        rotate_left
                        · (intro w hSw; (try dsimp only at hSw); go_simp); (try with_reducible rfl)
                        try simp only [Act.put, List.setIfInBounds_toArray, List.set_cons_zero, List.set_cons_succ]
                        refine wpAnyH_take (i := 4) (oi := { dst := some 185, op := Op.move (Operand.tmp 20), type := 25, pos := "top03_wt47d.go:48", after := #[], guard := none }) (v := ?_) rfl (by kernel_rfl) (by kernel_rfl) (by kernel_rfl) (fun _ _ _ h => h) (Or.inl ⟨by rfl, ?_⟩) (by assumption) ?_
                        rotate_left
                        · (intro w hSw; (try dsimp only at hSw); go_simp); (try with_reducible rfl)
                        try simp only [Act.put, List.setIfInBounds_toArray, List.set_cons_zero, List.set_cons_succ]
                        refine wpAnyH_take (i := 5) (oi := { dst := some 186, op := Op.indexAddr 25 (Operand.tmp 185) (Operand.const (Value.int IntKind.i64 0)), type := 0, pos := "top03_wt47d.go:48", after := #[{ on := 4, ground := Ground.data }], guard := none }) (v := ?_) rfl (by kernel_rfl) (by kernel_rfl) (by kernel_rfl) (fun _ _ _ h => h) (Or.inl ⟨by rfl, ?_⟩) (by assumption) ?_
                        rotate_left
                        · (intro w hSw; (try dsimp only at hSw); go_simp); (try with_reducible rfl)
                        try simp only [Act.put, List.setIfInBounds_toArray, List.set_cons_zero, List.set_cons_succ]
                        refine wpAnyH_take (i := 6) (oi := { dst := some 187, op := Op.load 3 (Operand.tmp 186), type := 3, pos := "top03_wt47d.go:48", after := #[{ on := 5, ground := Ground.data }], guard := none }) (v := ?_) rfl (by kernel_rfl) (by kernel_rfl) (by kernel_rfl) (fun _ _ _ h => h) (Or.inl ⟨by rfl, ?_⟩) (by assumption) ?_
                        rotate_left
                        · (intro w hSw; (try dsimp only at hSw); go_simp); (try with_reducible rfl)
                        try simp only [Act.put, List.setIfInBounds_toArray, List.set_cons_zero, List.set_cons_succ]
                        refine wpAnyH_take (i := 7) (oi := { dst := some 188, op := Op.unOp UnOp.neg 3 (Operand.tmp 187), type := 3, pos := "top03_wt47d.go:48", after := #[{ on := 6, ground := Ground.data }], guard := none }) (v := ?_) rfl (by kernel_rfl) (by kernel_rfl) (by kernel_rfl) (fun _ _ _ h => h) (Or.inl ⟨by rfl, ?_⟩) (by assumption) ?_
                        rotate_left
                        · (intro w hSw; (try dsimp only at hSw); go_simp); (try with_reducible rfl)
                        try simp only [Act.put, List.setIfInBounds_toArray, List.set_cons_zero, List.set_cons_succ]
                        refine wpAnyH_take (i := 8) (oi := { dst := some 189, op := Op.move (Operand.tmp 22), type := 24, pos := "top03_wt47d.go:48", after := #[], guard := none }) (v := ?_) rfl (by kernel_rfl) (by kernel_rfl) (by kernel_rfl) (fun _ _ _ h => h) (Or.inl ⟨by rfl, ?_⟩) (by assumption) ?_
                        rotate_left
                        · (intro w hSw; (try dsimp only at hSw); go_simp); (try with_reducible rfl)
                        try simp only [Act.put, List.setIfInBounds_toArray, List.set_cons_zero, List.set_cons_succ]
                        refine wpAnyH_take (i := 9) (oi := { dst := some 190, op := Op.move (Operand.tmp 25), type := 3, pos := "top03_wt47d.go:48", after := #[], guard := none }) (v := ?_) rfl (by kernel_rfl) (by kernel_rfl) (by kernel_rfl) (fun _ _ _ h => h) (Or.inl ⟨by rfl, ?_⟩) (by assumption) ?_
                        rotate_left
                        · (intro w hSw; (try dsimp only at hSw); go_simp); (try with_reducible rfl)
                        try simp only [Act.put, List.setIfInBounds_toArray, List.set_cons_zero, List.set_cons_succ]
                        refine wpAnyH_take (i := 10) (oi := { dst := some 191, op := Op.binOp BinOp.sub 3 (Operand.tmp 190) (Operand.const (Value.int IntKind.i64 1)) 3, type := 3, pos := "top03_wt47d.go:48", after := #[{ on := 9, ground := Ground.data }], guard := none }) (v := ?_) rfl (by kernel_rfl) (by kernel_rfl) (by kernel_rfl) (fun _ _ _ h => h) (Or.inl ⟨by rfl, ?_⟩) (by assumption) ?_
                        rotate_left
                        · (intro w hSw; (try dsimp only at hSw); go_simp); (try with_reducible rfl)
                        try simp only [Act.put, List.setIfInBounds_toArray, List.set_cons_zero, List.set_cons_succ]
                        refine wpAnyH_take (i := 11) (oi := { dst := some 192, op := Op.indexAddr 24 (Operand.tmp 189) (Operand.tmp 191), type := 0, pos := "top03_wt47d.go:48", after := #[{ on := 8, ground := Ground.data }, { on := 10, ground := Ground.data }], guard := none }) (v := ?_) rfl (by kernel_rfl) (by kernel_rfl) (by kernel_rfl) (fun _ _ _ h => h) (Or.inl ⟨by rfl, ?_⟩) (by assumption) ?_
                        rotate_left
                        · (intro w hSw; (try dsimp only at hSw); go_simp); (try with_reducible rfl)
                        try simp only [Act.put, List.setIfInBounds_toArray, List.set_cons_zero, List.set_cons_succ]
                        refine wpAnyH_take (i := 12) (oi := { dst := some 193, op := Op.load 3 (Operand.tmp 192), type := 3, pos := "top03_wt47d.go:48", after := #[{ on := 11, ground := Ground.data }], guard := none }) (v := ?_) rfl (by kernel_rfl) (by kernel_rfl) (by kernel_rfl) (fun _ _ _ h => h) (Or.inl ⟨by rfl, ?_⟩) (by assumption) ?_
                        rotate_left
                        · (intro w hSw; (try dsimp only at hSw); go_simp); (try with_reducible rfl)
                        try simp only [Act.put, List.setIfInBounds_toArray, List.set_cons_zero, List.set_cons_succ]
                        refine wpAnyH_take (i := 13) (oi := { dst := some 194, op := Op.binOp BinOp.mul 3 (Operand.tmp 188) (Operand.tmp 193) 3, type := 3, pos := "top03_wt47d.go:48", after := #[{ on := 7, ground := Ground.data }, { on := 12, ground := Ground.data }], guard := none }) (v := ?_) rfl (by kernel_rfl) (by kernel_rfl) (by kernel_rfl) (fun _ _ _ h => h) (Or.inl ⟨by rfl, ?_⟩) (by assumption) ?_
                        rotate_left
                        · (intro w hSw; (try dsimp only at hSw); go_simp); (try with_reducible rfl)
                        try simp only [Act.put, List.setIfInBounds_toArray, List.set_cons_zero, List.set_cons_succ]
                        refine wpAnyH_take (i := 14) (oi := { dst := some 195, op := Op.binOp BinOp.neq 3 (Operand.tmp 184) (Operand.tmp 194) 3, type := 4, pos := "top03_wt47d.go:48", after := #[{ on := 3, ground := Ground.data }, { on := 13, ground := Ground.data }], guard := none }) (v := ?_) rfl (by kernel_rfl) (by kernel_rfl) (by kernel_rfl) (fun _ _ _ h => h) (Or.inl ⟨by rfl, ?_⟩) (by assumption) ?_
                        rotate_left
                        · (intro w hSw; (try dsimp only at hSw); go_simp); (try with_reducible rfl)
                        try simp only [Act.put, List.setIfInBounds_toArray, List.set_cons_zero, List.set_cons_succ]
                        refine wpAnyH_take (i := 15) (oi := { dst := some 196, op := Op.move (Operand.tmp 195), type := 4, pos := "top03_wt47d.go:48", after := #[{ on := 14, ground := Ground.data }], guard := none }) (v := ?_) rfl (by kernel_rfl) (by kernel_rfl) (by kernel_rfl) (fun _ _ _ h => h) (Or.inl ⟨by rfl, ?_⟩) (by assumption) ?_
                        rotate_left
                        · (intro w hSw; (try dsimp only at hSw); go_simp); (try with_reducible rfl)
                        try simp only [Act.put, List.setIfInBounds_toArray, List.set_cons_zero, List.set_cons_succ]
                        refine wpAnyH_take (i := 16) (oi := { dst := some 197, op := Op.move (Operand.tmp 24), type := 4, pos := "top03_wt47d.go:48", after := #[{ on := 15, ground := Ground.guard }], guard := some (15, false) }) (v := ?_) rfl (by kernel_rfl) (by kernel_rfl) (by kernel_rfl) (fun _ _ _ h => h) (Or.inl ⟨by rfl, ?_⟩) (by assumption) ?_
                        rotate_left
                        · (intro w hSw; (try dsimp only at hSw); go_simp); (try with_reducible rfl)
                        try simp only [Act.put, List.setIfInBounds_toArray, List.set_cons_zero, List.set_cons_succ]
                        refine wpAnyH_take (i := 17) (oi := { dst := some 198, op := Op.move (Operand.tmp 22), type := 24, pos := "top03_wt47d.go:48", after := #[{ on := 15, ground := Ground.guard }], guard := some (15, false) }) (v := ?_) rfl (by kernel_rfl) (by kernel_rfl) (by kernel_rfl) (fun _ _ _ h => h) (Or.inl ⟨by rfl, ?_⟩) (by assumption) ?_
                        rotate_left
                        · (intro w hSw; (try dsimp only at hSw); go_simp); (try with_reducible rfl)
                        try simp only [Act.put, List.setIfInBounds_toArray, List.set_cons_zero, List.set_cons_succ]
                        refine wpAnyH_take (i := 18) (oi := { dst := some 199, op := Op.move (Operand.tmp 25), type := 3, pos := "top03_wt47d.go:48", after := #[{ on := 15, ground := Ground.guard }], guard := some (15, false) }) (v := ?_) rfl (by kernel_rfl) (by kernel_rfl) (by kernel_rfl) (fun _ _ _ h => h) (Or.inl ⟨by rfl, ?_⟩) (by assumption) ?_
                        rotate_left
                        · (intro w hSw; (try dsimp only at hSw); go_simp); (try with_reducible rfl)
                        try simp only [Act.put, List.setIfInBounds_toArray, List.set_cons_zero, List.set_cons_succ]
                        refine wpAnyH_take (i := 19) (oi := { dst := some 200, op := Op.indexAddr 24 (Operand.tmp 198) (Operand.tmp 199), type := 0, pos := "top03_wt47d.go:48", after := #[{ on := 17, ground := Ground.data }, { on := 18, ground := Ground.data }, { on := 15, ground := Ground.guard }], guard := some (15, false) }) (v := ?_) rfl (by kernel_rfl) (by kernel_rfl) (by kernel_rfl) (fun _ _ _ h => h) (Or.inl ⟨by rfl, ?_⟩) (by assumption) ?_
                        rotate_left
                        · (intro w hSw; (try dsimp only at hSw); go_simp); (try with_reducible rfl)
                        try simp only [Act.put, List.setIfInBounds_toArray, List.set_cons_zero, List.set_cons_succ]
                        refine wpAnyH_take (i := 20) (oi := { dst := some 201, op := Op.load 3 (Operand.tmp 200), type := 3, pos := "top03_wt47d.go:48", after := #[{ on := 19, ground := Ground.data }, { on := 15, ground := Ground.guard }], guard := some (15, false) }) (v := ?_) rfl (by kernel_rfl) (by kernel_rfl) (by kernel_rfl) (fun _ _ _ h => h) (Or.inl ⟨by rfl, ?_⟩) (by assumption) ?_
                        rotate_left
                        · (intro w hSw; (try dsimp only at hSw); go_simp); (try with_reducible rfl)
                        try simp only [Act.put, List.setIfInBounds_toArray, List.set_cons_zero, List.set_cons_succ]
                        refine wpAnyH_take (i := 21) (oi := { dst := some 202, op := Op.move (Operand.tmp 22), type := 24, pos := "top03_wt47d.go:48", after := #[{ on := 15, ground := Ground.guard }], guard := some (15, false) }) (v := ?_) rfl (by kernel_rfl) (by kernel_rfl) (by kernel_rfl) (fun _ _ _ h => h) (Or.inl ⟨by rfl, ?_⟩) (by assumption) ?_
                        rotate_left
                        · (intro w hSw; (try dsimp only at hSw); go_simp); (try with_reducible rfl)
                        try simp only [Act.put, List.setIfInBounds_toArray, List.set_cons_zero, List.set_cons_succ]
                        refine wpAnyH_take (i := 22) (oi := { dst := some 203, op := Op.move (Operand.tmp 25), type := 3, pos := "top03_wt47d.go:48", after := #[{ on := 15, ground := Ground.guard }], guard := some (15, false) }) (v := ?_) rfl (by kernel_rfl) (by kernel_rfl) (by kernel_rfl) (fun _ _ _ h => h) (Or.inl ⟨by rfl, ?_⟩) (by assumption) ?_
                        rotate_left
                        · (intro w hSw; (try dsimp only at hSw); go_simp); (try with_reducible rfl)
                        try simp only [Act.put, List.setIfInBounds_toArray, List.set_cons_zero, List.set_cons_succ]
                        refine wpAnyH_take (i := 23) (oi := { dst := some 204, op := Op.indexAddr 24 (Operand.tmp 202) (Operand.tmp 203), type := 0, pos := "top03_wt47d.go:48", after := #[{ on := 21, ground := Ground.data }, { on := 22, ground := Ground.data }, { on := 15, ground := Ground.guard }], guard := some (15, false) }) (v := ?_) rfl (by kernel_rfl) (by kernel_rfl) (by kernel_rfl) (fun _ _ _ h => h) (Or.inl ⟨by rfl, ?_⟩) (by assumption) ?_
                        rotate_left
                        · (intro w hSw; (try dsimp only at hSw); go_simp); (try with_reducible rfl)
                        try simp only [Act.put, List.setIfInBounds_toArray, List.set_cons_zero, List.set_cons_succ]
                        refine wpAnyH_take (i := 24) (oi := { dst := some 205, op := Op.load 3 (Operand.tmp 204), type := 3, pos := "top03_wt47d.go:48", after := #[{ on := 23, ground := Ground.data }, { on := 15, ground := Ground.guard }], guard := some (15, false) }) (v := ?_) rfl (by kernel_rfl) (by kernel_rfl) (by kernel_rfl) (fun _ _ _ h => h) (Or.inl ⟨by rfl, ?_⟩) (by assumption) ?_
                        rotate_left
                        · (intro w hSw; (try dsimp only at hSw); go_simp); (try with_reducible rfl)
                        try simp only [Act.put, List.setIfInBounds_toArray, List.set_cons_zero, List.set_cons_succ]
                        refine wpAnyH_take (i := 25) (oi := { dst := some 206, op := Op.unOp UnOp.neg 3 (Operand.tmp 205), type := 3, pos := "top03_wt47d.go:48", after := #[{ on := 24, ground := Ground.data }, { on := 15, ground := Ground.guard }], guard := some (15, false) }) (v := ?_) rfl (by kernel_rfl) (by kernel_rfl) (by kernel_rfl) (fun _ _ _ h => h) (Or.inl ⟨by rfl, ?_⟩) (by assumption) ?_
                        rotate_left
                        · (intro w hSw; (try dsimp only at hSw); go_simp); (try with_reducible rfl)
                        try simp only [Act.put, List.setIfInBounds_toArray, List.set_cons_zero, List.set_cons_succ]
                        refine wpAnyH_take (i := 26) (oi := { dst := some 207, op := Op.call { callee := Callee.builtin Builtin.max, args := #[Operand.tmp 201, Operand.tmp 206], argTypes := #[3, 3] }, type := 3, pos := "top03_wt47d.go:48", after := #[{ on := 20, ground := Ground.data }, { on := 25, ground := Ground.data }, { on := 15, ground := Ground.guard }], guard := some (15, false) }) (v := ?_) rfl (by kernel_rfl) (by kernel_rfl) (by kernel_rfl) (fun _ _ _ h => h) (Or.inl ⟨by rfl, ?_⟩) (by assumption) ?_
                        rotate_left
                        · (intro w hSw; (try dsimp only at hSw); go_simp); (try with_reducible rfl)
                        try simp only [Act.put, List.setIfInBounds_toArray, List.set_cons_zero, List.set_cons_succ]
                        refine wpAnyH_take (i := 27) (oi := { dst := some 208, op := Op.move (Operand.tmp 7), type := 3, pos := "top03_wt47d.go:48", after := #[{ on := 15, ground := Ground.guard }], guard := some (15, false) }) (v := ?_) rfl (by kernel_rfl) (by kernel_rfl) (by kernel_rfl) (fun _ _ _ h => h) (Or.inl ⟨by rfl, ?_⟩) (by assumption) ?_
                        rotate_left
                        · (intro w hSw; (try dsimp only at hSw); go_simp); (try with_reducible rfl)
                        try simp only [Act.put, List.setIfInBounds_toArray, List.set_cons_zero, List.set_cons_succ]
                        refine wpAnyH_take (i := 28) (oi := { dst := some 209, op := Op.move (Operand.tmp 22), type := 24, pos := "top03_wt47d.go:48", after := #[{ on := 15, ground := Ground.guard }], guard := some (15, false) }) (v := ?_) rfl (by kernel_rfl) (by kernel_rfl) (by kernel_rfl) (fun _ _ _ h => h) (Or.inl ⟨by rfl, ?_⟩) (by assumption) ?_
                        rotate_left
                        · (intro w hSw; (try dsimp only at hSw); go_simp); (try with_reducible rfl)
                        try simp only [Act.put, List.setIfInBounds_toArray, List.set_cons_zero, List.set_cons_succ]
                        refine wpAnyH_take (i := 29) (oi := { dst := some 210, op := Op.move (Operand.tmp 25), type := 3, pos := "top03_wt47d.go:48", after := #[{ on := 15, ground := Ground.guard }], guard := some (15, false) }) (v := ?_) rfl (by kernel_rfl) (by kernel_rfl) (by kernel_rfl) (fun _ _ _ h => h) (Or.inl ⟨by rfl, ?_⟩) (by assumption) ?_
                        rotate_left
                        · (intro w hSw; (try dsimp only at hSw); go_simp); (try with_reducible rfl)
                        try simp only [Act.put, List.setIfInBounds_toArray, List.set_cons_zero, List.set_cons_succ]
                        refine wpAnyH_take (i := 30) (oi := { dst := some 211, op := Op.binOp BinOp.sub 3 (Operand.tmp 210) (Operand.const (Value.int IntKind.i64 1)) 3, type := 3, pos := "top03_wt47d.go:48", after := #[{ on := 29, ground := Ground.data }, { on := 15, ground := Ground.guard }], guard := some (15, false) }) (v := ?_) rfl (by kernel_rfl) (by kernel_rfl) (by kernel_rfl) (fun _ _ _ h => h) (Or.inl ⟨by rfl, ?_⟩) (by assumption) ?_
                        rotate_left
                        · (intro w hSw; (try dsimp only at hSw); go_simp); (try with_reducible rfl)
                        try simp only [Act.put, List.setIfInBounds_toArray, List.set_cons_zero, List.set_cons_succ]
                        refine wpAnyH_take (i := 31) (oi := { dst := some 212, op := Op.indexAddr 24 (Operand.tmp 209) (Operand.tmp 211), type := 0, pos := "top03_wt47d.go:48", after := #[{ on := 28, ground := Ground.data }, { on := 30, ground := Ground.data }, { on := 15, ground := Ground.guard }], guard := some (15, false) }) (v := ?_) rfl (by kernel_rfl) (by kernel_rfl) (by kernel_rfl) (fun _ _ _ h => h) (Or.inl ⟨by rfl, ?_⟩) (by assumption) ?_
                        rotate_left
                        · (intro w hSw; (try dsimp only at hSw); go_simp); (try with_reducible rfl)
                        try simp only [Act.put, List.setIfInBounds_toArray, List.set_cons_zero, List.set_cons_succ]
                        refine wpAnyH_take (i := 32) (oi := { dst := some 213, op := Op.load 3 (Operand.tmp 212), type := 3, pos := "top03_wt47d.go:48", after := #[{ on := 31, ground := Ground.data }, { on := 15, ground := Ground.guard }], guard := some (15, false) }) (v := ?_) rfl (by kernel_rfl) (by kernel_rfl) (by kernel_rfl) (fun _ _ _ h => h) (Or.inl ⟨by rfl, ?_⟩) (by assumption) ?_
                        rotate_left
                        · (intro w hSw; (try dsimp only at hSw); go_simp); (try with_reducible rfl)
                        try simp only [Act.put, List.setIfInBounds_toArray, List.set_cons_zero, List.set_cons_succ]
                        refine wpAnyH_take (i := 33) (oi := { dst := some 214, op := Op.move (Operand.tmp 22), type := 24, pos := "top03_wt47d.go:48", after := #[{ on := 15, ground := Ground.guard }], guard := some (15, false) }) (v := ?_) rfl (by kernel_rfl) (by kernel_rfl) (by kernel_rfl) (fun _ _ _ h => h) (Or.inl ⟨by rfl, ?_⟩) (by assumption) ?_
                        rotate_left
                        · (intro w hSw; (try dsimp only at hSw); go_simp); (try with_reducible rfl)
                        try simp only [Act.put, List.setIfInBounds_toArray, List.set_cons_zero, List.set_cons_succ]
                        refine wpAnyH_take (i := 34) (oi := { dst := some 215, op := Op.move (Operand.tmp 25), type := 3, pos := "top03_wt47d.go:48", after := #[{ on := 15, ground := Ground.guard }], guard := some (15, false) }) (v := ?_) rfl (by kernel_rfl) (by kernel_rfl) (by kernel_rfl) (fun _ _ _ h => h) (Or.inl ⟨by rfl, ?_⟩) (by assumption) ?_
                        rotate_left
                        · (intro w hSw; (try dsimp only at hSw); go_simp); (try with_reducible rfl)
                        try simp only [Act.put, List.setIfInBounds_toArray, List.set_cons_zero, List.set_cons_succ]
                        refine wpAnyH_take (i := 35) (oi := { dst := some 216, op := Op.binOp BinOp.sub 3 (Operand.tmp 215) (Operand.const (Value.int IntKind.i64 1)) 3, type := 3, pos := "top03_wt47d.go:48", after := #[{ on := 34, ground := Ground.data }, { on := 15, ground := Ground.guard }], guard := some (15, false) }) (v := ?_) rfl (by kernel_rfl) (by kernel_rfl) (by kernel_rfl) (fun _ _ _ h => h) (Or.inl ⟨by rfl, ?_⟩) (by assumption) ?_
                        rotate_left
                        · (intro w hSw; (try dsimp only at hSw); go_simp); (try with_reducible rfl)
                        try simp only [Act.put, List.setIfInBounds_toArray, List.set_cons_zero, List.set_cons_succ]
                        refine wpAnyH_take (i := 36) (oi := { dst := some 217, op := Op.indexAddr 24 (Operand.tmp 214) (Operand.tmp 216), type := 0, pos := "top03_wt47d.go:48", after := #[{ on := 33, ground := Ground.data }, { on := 35, ground := Ground.data }, { on := 15, ground := Ground.guard }], guard := some (15, false) }) (v := ?_) rfl (by kernel_rfl) (by kernel_rfl) (by kernel_rfl) (fun _ _ _ h => h) (Or.inl ⟨by rfl, ?_⟩) (by assumption) ?_
                        rotate_left
                        · (intro w hSw; (try dsimp only at hSw); go_simp); (try with_reducible rfl)
                        try simp only [Act.put, List.setIfInBounds_toArray, List.set_cons_zero, List.set_cons_succ]
                        refine wpAnyH_take (i := 37) (oi := { dst := some 218, op := Op.load 3 (Operand.tmp 217), type := 3, pos := "top03_wt47d.go:48", after := #[{ on := 36, ground := Ground.data }, { on := 15, ground := Ground.guard }], guard := some (15, false) }) (v := ?_) rfl (by kernel_rfl) (by kernel_rfl) (by kernel_rfl) (fun _ _ _ h => h) (Or.inl ⟨by rfl, ?_⟩) (by assumption) ?_
                        rotate_left
                        · (intro w hSw; (try dsimp only at hSw); go_simp); (try with_reducible rfl)
                        try simp only [Act.put, List.setIfInBounds_toArray, List.set_cons_zero, List.set_cons_succ]
                        refine wpAnyH_take (i := 38) (oi := { dst := some 219, op := Op.unOp UnOp.neg 3 (Operand.tmp 218), type := 3, pos := "top03_wt47d.go:48", after := #[{ on := 37, ground := Ground.data }, { on := 15, ground := Ground.guard }], guard := some (15, false) }) (v := ?_) rfl (by kernel_rfl) (by kernel_rfl) (by kernel_rfl) (fun _ _ _ h => h) (Or.inl ⟨by rfl, ?_⟩) (by assumption) ?_
                        rotate_left
                        · (intro w hSw; (try dsimp only at hSw); go_simp); (try with_reducible rfl)
                        try simp only [Act.put, List.setIfInBounds_toArray, List.set_cons_zero, List.set_cons_succ]
                        refine wpAnyH_take (i := 39) (oi := { dst := some 220, op := Op.call { callee := Callee.builtin Builtin.max, args := #[Operand.tmp 213, Operand.tmp 219], argTypes := #[3, 3] }, type := 3, pos := "top03_wt47d.go:48", after := #[{ on := 32, ground := Ground.data }, { on := 38, ground := Ground.data }, { on := 15, ground := Ground.guard }], guard := some (15, false) }) (v := ?_) rfl (by kernel_rfl) (by kernel_rfl) (by kernel_rfl) (fun _ _ _ h => h) (Or.inl ⟨by rfl, ?_⟩) (by assumption) ?_
                        rotate_left
                        · (intro w hSw; (try dsimp only at hSw); go_simp); (try with_reducible rfl)
                        try simp only [Act.put, List.setIfInBounds_toArray, List.set_cons_zero, List.set_cons_succ]
                        refine wpAnyH_take (i := 40) (oi := { dst := some 221, op := Op.binOp BinOp.mul 3 (Operand.tmp 208) (Operand.tmp 220) 3, type := 3, pos := "top03_wt47d.go:48", after := #[{ on := 27, ground := Ground.data }, { on := 39, ground := Ground.data }, { on := 15, ground := Ground.guard }], guard := some (15, false) }) (v := ?_) rfl (by kernel_rfl) (by kernel_rfl) (by kernel_rfl) (fun _ _ _ h => h) (Or.inl ⟨by rfl, ?_⟩) (by assumption) ?_
                        rotate_left
                        · (intro w hSw; (try dsimp only at hSw); go_simp); (try with_reducible rfl)
                        try simp only [Act.put, List.setIfInBounds_toArray, List.set_cons_zero, List.set_cons_succ]
                        refine wpAnyH_take (i := 41) (oi := { dst := some 222, op := Op.binOp BinOp.lss 3 (Operand.tmp 207) (Operand.tmp 221) 3, type := 4, pos := "top03_wt47d.go:48", after := #[{ on := 26, ground := Ground.data }, { on := 40, ground := Ground.data }, { on := 15, ground := Ground.guard }], guard := some (15, false) }) (v := ?_) rfl (by kernel_rfl) (by kernel_rfl) (by kernel_rfl) (fun _ _ _ h => h) (Or.inl ⟨by rfl, ?_⟩) (by assumption) ?_
                        rotate_left
                        · (intro w hSw; (try dsimp only at hSw); go_simp); (try with_reducible rfl)
                        try simp only [Act.put, List.setIfInBounds_toArray, List.set_cons_zero, List.set_cons_succ]
                        refine wpAnyH_take (i := 42) (oi := { dst := some 223, op := Op.binOp BinOp.neq 4 (Operand.tmp 197) (Operand.tmp 222) 4, type := 4, pos := "top03_wt47d.go:48", after := #[{ on := 16, ground := Ground.data }, { on := 41, ground := Ground.data }, { on := 15, ground := Ground.guard }], guard := some (15, false) }) (v := ?_) rfl (by kernel_rfl) (by kernel_rfl) (by kernel_rfl) (fun _ _ _ h => h) (Or.inl ⟨by rfl, ?_⟩) (by assumption) ?_
                        rotate_left
                        · (intro w hSw; (try dsimp only at hSw); go_simp); (try with_reducible rfl)
                        try simp only [Act.put, List.setIfInBounds_toArray, List.set_cons_zero, List.set_cons_succ]
                        refine wpAnyH_take (i := 43) (oi := { dst := some 224, op := Op.move (Operand.tmp 223), type := 4, pos := "top03_wt47d.go:48", after := #[{ on := 42, ground := Ground.data }, { on := 15, ground := Ground.chain }, { on := 15, ground := Ground.guard }], guard := some (15, false) }) (v := ?_) rfl (by kernel_rfl) (by kernel_rfl) (by kernel_rfl) (fun _ _ _ h => h) (Or.inl ⟨by rfl, ?_⟩) (by assumption) ?_
                        rotate_left
                        · (intro w hSw; (try dsimp only at hSw); go_simp); (try with_reducible rfl)
                        try simp only [Act.put, List.setIfInBounds_toArray, List.set_cons_zero, List.set_cons_succ]
                        refine wpAnyH_take (i := 44) (oi := { dst := some 225, op := Op.move (Operand.tmp 22), type := 24, pos := "top03_wt47d.go:48", after := #[{ on := 43, ground := Ground.guard }], guard := some (43, true) }) (v := undef) rfl (by kernel_rfl) (by kernel_rfl) (by kernel_rfl) (fun _ _ _ h => h) (Or.inr ⟨by rfl, rfl⟩) (by assumption) ?_
                        try simp only [Act.put, List.setIfInBounds_toArray, List.set_cons_zero, List.set_cons_succ]
                        refine wpAnyH_take (i := 45) (oi := { dst := some 226, op := Op.move (Operand.tmp 25), type := 3, pos := "top03_wt47d.go:48", after := #[{ on := 43, ground := Ground.guard }], guard := some (43, true) }) (v := undef) rfl (by kernel_rfl) (by kernel_rfl) (by kernel_rfl) (fun _ _ _ h => h) (Or.inr ⟨by rfl, rfl⟩) (by assumption) ?_
                        try simp only [Act.put, List.setIfInBounds_toArray, List.set_cons_zero, List.set_cons_succ]
                        refine wpAnyH_take (i := 46) (oi := { dst := some 227, op := Op.binOp BinOp.sub 3 (Operand.tmp 226) (Operand.const (Value.int IntKind.i64 1)) 3, type := 3, pos := "top03_wt47d.go:48", after := #[{ on := 45, ground := Ground.data }, { on := 43, ground := Ground.guard }], guard := some (43, true) }) (v := undef) rfl (by kernel_rfl) (by kernel_rfl) (by kernel_rfl) (fun _ _ _ h => h) (Or.inr ⟨by rfl, rfl⟩) (by assumption) ?_
                        try simp only [Act.put, List.setIfInBounds_toArray, List.set_cons_zero, List.set_cons_succ]
                        refine wpAnyH_take (i := 47) (oi := { dst := some 228, op := Op.indexAddr 24 (Operand.tmp 225) (Operand.tmp 227), type := 0, pos := "top03_wt47d.go:48", after := #[{ on := 44, ground := Ground.data }, { on := 46, ground := Ground.data }, { on := 43, ground := Ground.guard }], guard := some (43, true) }) (v := undef) rfl (by kernel_rfl) (by kernel_rfl) (by kernel_rfl) (fun _ _ _ h => h) (Or.inr ⟨by rfl, rfl⟩) (by assumption) ?_
                        try simp only [Act.put, List.setIfInBounds_toArray, List.set_cons_zero, List.set_cons_succ]
                        refine wpAnyH_take (i := 48) (oi := { dst := some 229, op := Op.load 3 (Operand.tmp 228), type := 3, pos := "top03_wt47d.go:48", after := #[{ on := 47, ground := Ground.data }, { on := 43, ground := Ground.guard }], guard := some (43, true) }) (v := undef) rfl (by kernel_rfl) (by kernel_rfl) (by kernel_rfl) (fun _ _ _ h => h) (Or.inr ⟨by rfl, rfl⟩) (by assumption) ?_
                        try simp only [Act.put, List.setIfInBounds_toArray, List.set_cons_zero, List.set_cons_succ]
                        refine wpAnyH_take (i := 49) (oi := { dst := some 230, op := Op.binOp BinOp.neq 3 (Operand.tmp 229) (Operand.const (Value.int IntKind.i64 0)) 3, type := 4, pos := "top03_wt47d.go:48", after := #[{ on := 48, ground := Ground.data }, { on := 43, ground := Ground.guard }], guard := some (43, true) }) (v := undef) rfl (by kernel_rfl) (by kernel_rfl) (by kernel_rfl) (fun _ _ _ h => h) (Or.inr ⟨by rfl, rfl⟩) (by assumption) ?_
                        try simp only [Act.put, List.setIfInBounds_toArray, List.set_cons_zero, List.set_cons_succ]
                        refine wpAnyH_take (i := 50) (oi := { dst := some 231, op := Op.pick (Operand.tmp 224) (Operand.tmp 230) (Operand.const (Value.bool false)), type := 4, pos := "top03_wt47d.go:48", after := #[{ on := 43, ground := Ground.data }, { on := 49, ground := Ground.data }, { on := 15, ground := Ground.guard }], guard := some (15, false) }) (v := ?_) rfl (by kernel_rfl) (by kernel_rfl) (by kernel_rfl) (fun _ _ _ h => h) (Or.inl ⟨by rfl, ?_⟩) (by assumption) ?_
                        rotate_left
                        · (intro w hSw; (try dsimp only at hSw); go_simp); (try with_reducible rfl)
                        try simp only [Act.put, List.setIfInBounds_toArray, List.set_cons_zero, List.set_cons_succ]
                        refine wpAnyH_take (i := 51) (oi := { dst := some 232, op := Op.pick (Operand.tmp 196) (Operand.const (Value.bool true)) (Operand.tmp 231), type := 4, pos := "top03_wt47d.go:48", after := #[{ on := 15, ground := Ground.data }, { on := 50, ground := Ground.data }], guard := none }) (v := ?_) rfl (by kernel_rfl) (by kernel_rfl) (by kernel_rfl) (fun _ _ _ h => h) (Or.inl ⟨by rfl, ?_⟩) (by assumption) ?_
                        rotate_left
                        · (intro w hSw; (try dsimp only at hSw); go_simp); (try with_reducible rfl)
                        try simp only [Act.put, List.setIfInBounds_toArray, List.set_cons_zero, List.set_cons_succ]
                        refine wpAnyH_done (by kernel_rfl) ?_ _
                        clear hHeld0
                        (go_wp2_with fail; all_goals (go_meet; exact ⟨rfl, rfl⟩))
                    case rest =>
                      obtain ⟨rfl, rfl⟩ := hcut
                      clear sx sy c0
                      go_wp2
                      go_roundw
                      case rel => exact ⟨k + 1, by go_num, by omega, by omega, hb2.drew⟩
                      case measure => simp [intOf]; omega
                  · obtain rfl : k = 5 := by omega
                    have hr9 := bthen hrx8 hb2
                    clear HS c0
                    by_cases hgq : gain = m
                    · have hF : fallsC den c = false := by rw [HC2.out, hgq]; exact hmf
                      have hq : (gain == m) = true := by rw [beq_iff_eq]; exact hgq
                      have hmr := cellb hm0 hr9
                      clear hgq
                      go_wp2_with fail
                      refine (washerPole_any _).mono ?_
                      rintro e x9 ⟨rfl, hx9⟩
                      go_wp2
                      go_ret
                      exact ⟨rfl, bthen hV8 (bthen hr9 hx9)⟩
                    · have hF : fallsC den c = true := by rw [HC2.out]; exact HALL.out gain hga (by omega)
                      have hq : (gain == m) = false := by rw [beq_eq_false_iff_ne]; exact hgq
                      have hmr := cellb hm0 hr9
                      have hlt : gain < m := by omega
                      clear hgq
                      go_wp2
                      go_roundw
                      case rel => exact ⟨gain + 1, by go_num, by omega, by omega, hr9, by omega⟩
                      case measure => simp [intOf]; omega
            · rw [hE] at ts
              refine ts.mono ?_
              clear ts hE
              rintro e x7 ⟨⟨us, rfl, hus⟩, hx7⟩
              have hrx7 := bthen hrx6 hx7
              have c0 := cellb c0 hx7
              obtain ⟨usa, usc, rfl, _⟩ := hus
              clear hx7 hrx6 huv6
              go_upto_region 19 with fail
              go_cut [24] from 155 to 164 (fun v24 wx => v24 = .bool (fallsC den c) ∧ wx = x7.drew)
              case first =>
               as_aux_lemma =>
                have hfi := falls_ite den c
                have hnc : IntKind.i64.wrap (-c) = -c := IntWalk.i64_in _ (by omega)
                refine wp_region_held_drew (S := (fun w' => w'.cell? ⟨cb, co, none⟩ = some (.int .i64 c))) (by kernel_rfl) ?_ (fun hHeld0 => ?_)
                · (try dsimp only); go_keep
                refine wpAnyH_take (i := 0) (oi := { dst := some 155, op := Op.move (Operand.tmp 20), type := 25, pos := "top03_wt47d.go:42", after := #[], guard := none }) (v := ?_) rfl (by kernel_rfl) (by kernel_rfl) (by kernel_rfl) (fun _ _ _ h => h) (Or.inl ⟨by rfl, ?_⟩) (by assumption) ?_
                rotate_left
                · (intro w hSw; (try dsimp only at hSw); go_simp); (try with_reducible rfl)
                try simp only [Act.put, List.setIfInBounds_toArray, List.set_cons_zero, List.set_cons_succ]
                refine wpAnyH_take (i := 1) (oi := { dst := some 156, op := Op.indexAddr 25 (Operand.tmp 155) (Operand.const (Value.int IntKind.i64 0)), type := 0, pos := "top03_wt47d.go:42", after := #[{ on := 0, ground := Ground.data }], guard := none }) (v := ?_) rfl (by kernel_rfl) (by kernel_rfl) (by kernel_rfl) (fun _ _ _ h => h) (Or.inl ⟨by rfl, ?_⟩) (by assumption) ?_
                rotate_left
                · (intro w hSw; (try dsimp only at hSw); go_simp); (try with_reducible rfl)
                try simp only [Act.put, List.setIfInBounds_toArray, List.set_cons_zero, List.set_cons_succ]
                refine wpAnyH_take (i := 2) (oi := { dst := some 157, op := Op.load 3 (Operand.tmp 156), type := 3, pos := "top03_wt47d.go:42", after := #[{ on := 1, ground := Ground.data }], guard := none }) (v := ?_) rfl (by kernel_rfl) (by kernel_rfl) (by kernel_rfl) (fun _ _ _ h => h) (Or.inl ⟨by rfl, ?_⟩) (by assumption) ?_
                rotate_left
                · (intro w hSw; (try dsimp only at hSw); go_simp); (try with_reducible rfl)
                try simp only [Act.put, List.setIfInBounds_toArray, List.set_cons_zero, List.set_cons_succ]
                refine wpAnyH_take (i := 3) (oi := { dst := some 158, op := Op.move (Operand.tmp 20), type := 25, pos := "top03_wt47d.go:42", after := #[], guard := none }) (v := ?_) rfl (by kernel_rfl) (by kernel_rfl) (by kernel_rfl) (fun _ _ _ h => h) (Or.inl ⟨by rfl, ?_⟩) (by assumption) ?_
                rotate_left
                · (intro w hSw; (try dsimp only at hSw); go_simp); (try with_reducible rfl)
                try simp only [Act.put, List.setIfInBounds_toArray, List.set_cons_zero, List.set_cons_succ]
                refine wpAnyH_take (i := 4) (oi := { dst := some 159, op := Op.indexAddr 25 (Operand.tmp 158) (Operand.const (Value.int IntKind.i64 0)), type := 0, pos := "top03_wt47d.go:42", after := #[{ on := 3, ground := Ground.data }], guard := none }) (v := ?_) rfl (by kernel_rfl) (by kernel_rfl) (by kernel_rfl) (fun _ _ _ h => h) (Or.inl ⟨by rfl, ?_⟩) (by assumption) ?_
                rotate_left
                · (intro w hSw; (try dsimp only at hSw); go_simp); (try with_reducible rfl)
                try simp only [Act.put, List.setIfInBounds_toArray, List.set_cons_zero, List.set_cons_succ]
                refine wpAnyH_take (i := 5) (oi := { dst := some 160, op := Op.load 3 (Operand.tmp 159), type := 3, pos := "top03_wt47d.go:42", after := #[{ on := 4, ground := Ground.data }], guard := none }) (v := ?_) rfl (by kernel_rfl) (by kernel_rfl) (by kernel_rfl) (fun _ _ _ h => h) (Or.inl ⟨by rfl, ?_⟩) (by assumption) ?_
                rotate_left
                · (intro w hSw; (try dsimp only at hSw); go_simp); (try with_reducible rfl)
                try simp only [Act.put, List.setIfInBounds_toArray, List.set_cons_zero, List.set_cons_succ]
                refine wpAnyH_take (i := 6) (oi := { dst := some 161, op := Op.unOp UnOp.neg 3 (Operand.tmp 160), type := 3, pos := "top03_wt47d.go:42", after := #[{ on := 5, ground := Ground.data }], guard := none }) (v := ?_) rfl (by kernel_rfl) (by kernel_rfl) (by kernel_rfl) (fun _ _ _ h => h) (Or.inl ⟨by rfl, ?_⟩) (by assumption) ?_
                rotate_left
                · (intro w hSw; (try dsimp only at hSw); go_simp); (try with_reducible rfl)
                try simp only [Act.put, List.setIfInBounds_toArray, List.set_cons_zero, List.set_cons_succ]
                refine wpAnyH_take (i := 7) (oi := { dst := some 162, op := Op.call { callee := Callee.builtin Builtin.max, args := #[Operand.tmp 157, Operand.tmp 161], argTypes := #[3, 3] }, type := 3, pos := "top03_wt47d.go:42", after := #[{ on := 2, ground := Ground.data }, { on := 6, ground := Ground.data }], guard := none }) (v := ?_) rfl (by kernel_rfl) (by kernel_rfl) (by kernel_rfl) (fun _ _ _ h => h) (Or.inl ⟨by rfl, ?_⟩) (by assumption) ?_
                rotate_left
                · (intro w hSw; (try dsimp only at hSw); go_simp); (try with_reducible rfl)
                try simp only [Act.put, List.setIfInBounds_toArray, List.set_cons_zero, List.set_cons_succ]
                refine wpAnyH_take (i := 8) (oi := { dst := some 163, op := Op.move (Operand.tmp 7), type := 3, pos := "top03_wt47d.go:42", after := #[], guard := none }) (v := ?_) rfl (by kernel_rfl) (by kernel_rfl) (by kernel_rfl) (fun _ _ _ h => h) (Or.inl ⟨by rfl, ?_⟩) (by assumption) ?_
                rotate_left
                · (intro w hSw; (try dsimp only at hSw); go_simp); (try with_reducible rfl)
                try simp only [Act.put, List.setIfInBounds_toArray, List.set_cons_zero, List.set_cons_succ]
                refine wpAnyH_take (i := 9) (oi := { dst := some 164, op := Op.binOp BinOp.lss 3 (Operand.tmp 162) (Operand.tmp 163) 3, type := 4, pos := "top03_wt47d.go:42", after := #[{ on := 7, ground := Ground.data }, { on := 8, ground := Ground.data }], guard := none }) (v := ?_) rfl (by kernel_rfl) (by kernel_rfl) (by kernel_rfl) (fun _ _ _ h => h) (Or.inl ⟨by rfl, ?_⟩) (by assumption) ?_
                rotate_left
                · (intro w hSw; (try dsimp only at hSw); go_simp); (try with_reducible rfl)
                try simp only [Act.put, List.setIfInBounds_toArray, List.set_cons_zero, List.set_cons_succ]
                refine wpAnyH_take (i := 10) (oi := { dst := some 24, op := Op.assign (Operand.tmp 164), type := 4, pos := "top03_wt47d.go:42", after := #[{ on := 9, ground := Ground.data }, { on := 0, ground := Ground.phase }, { on := 1, ground := Ground.phase }, { on := 2, ground := Ground.phase }, { on := 3, ground := Ground.phase }, { on := 4, ground := Ground.phase }, { on := 5, ground := Ground.phase }, { on := 6, ground := Ground.phase }, { on := 7, ground := Ground.phase }, { on := 8, ground := Ground.phase }, { on := 9, ground := Ground.phase }], guard := none }) (v := ?_) rfl (by kernel_rfl) (by kernel_rfl) (by kernel_rfl) (fun _ _ _ h => h) (Or.inl ⟨by rfl, ?_⟩) (by assumption) ?_
                rotate_left
                · (intro w hSw; (try dsimp only at hSw); go_simp); (try with_reducible rfl)
                try simp only [Act.put, List.setIfInBounds_toArray, List.set_cons_zero, List.set_cons_succ]
                refine wpAnyH_done (by kernel_rfl) ?_ _
                clear hHeld0
                (go_wp2_with fail; all_goals (go_meet; exact ⟨rfl, rfl⟩))
              case rest =>
                obtain ⟨rfl, rfl⟩ := hcut
                have hr9 := hrx7.drew
                generalize x7.drew = x8 at hr9 ⊢
                clear hrx7 c0
                by_cases hgq : gain = m
                · have hF : fallsC den c = false := by rw [HC2.out, hgq]; exact hmf
                  have hq : (gain == m) = true := by rw [beq_iff_eq]; exact hgq
                  have hmr := cellb hm0 hr9
                  clear hgq
                  go_wp2_with fail
                  refine (washerPole_any _).mono ?_
                  rintro e x9 ⟨rfl, hx9⟩
                  go_wp2
                  go_ret
                  exact ⟨rfl, bthen hV8 (bthen hr9 hx9)⟩
                · have hF : fallsC den c = true := by rw [HC2.out]; exact HALL.out gain hga (by omega)
                  have hq : (gain == m) = false := by rw [beq_eq_false_iff_ne]; exact hgq
                  have hmr := cellb hm0 hr9
                  have hlt : gain < m := by omega
                  clear hgq
                  go_wp2
                  go_roundw
                  case rel => exact ⟨gain + 1, by go_num, by omega, by omega, hr9, by omega⟩
                  case measure => simp [intOf]; omega
          · exfalso; omega

end Go.Proofs.Ytnlmaildmeihgaa

/- the rows of a table: when a row fails, and the row after a row. -/
import Derived.Test.YtnlmaildmeihgaaGreatDoorBlk
namespace Go.Proofs.YtnlmaildmeihgaaGreatDoor
open Go.RowKit Go.Shelf

/-- the greater of a number and its opposite. -/
def absW (x : Int) : Int := max x (wrap64 (-x))
/-- does a row fail? -/
def failsB (l : List Int) : Bool := decide (absW (l[l.length - 1]?.getD 0) ≤ absW (l[0]?.getD 0))

set_option maxHeartbeats 1000000 in
theorem fails_any (v : Value) (l : List Int) (w : World) (hp : Ints w v l) (hl : l.length ≤ 1000000000) (h0 : 0 < l.length) :
    Calls Tryz.prog 143 #[v] w fun e W' => e = .returned (.bool (failsB l)) ∧ Below w.heap.size w W' := by
  obtain ⟨b, o, cap, rfl, hc⟩ := hp.head h0
  have c0 := hc 0 h0
  have c1 := hc (l.length - 1) (by omega)
  rw [Nat.add_zero] at c0
  obtain ⟨x, hx⟩ : ∃ x, x = l[0]?.getD 0 := ⟨_, rfl⟩
  obtain ⟨y, hy⟩ : ∃ y, y = l[l.length - 1]?.getD 0 := ⟨_, rfl⟩
  have hr : failsB l = decide (absW y ≤ absW x) := by rw [hx, hy]; rfl
  rw [hr]
  rw [← hx] at c0
  rw [← hy] at c1
  clear hx hy hr hc
  have a0 : (0 : Int) < (l.length : Int) := by omega
  have a1 : IntKind.i64.wrap ((l.length : Int) - 1) = (l.length : Int) - 1 := IntWalk.i64_in _ (by omega)
  have a2 : (1 : Int) ≤ (l.length : Int) := by omega
  have a4 : (l.length : Int) - 1 < (l.length : Int) := by omega
  have a3 : ((l.length : Int) - 1).toNat = l.length - 1 := by omega
  go_enter Tryz.func143, Tryz.ntmps143
  go_wp2_with fail
  refine wp_region_held_drew (S := (fun w' => w'.cell? ⟨b, o, none⟩ = some (.int .i64 x) ∧ w'.cell? ⟨b, o + (l.length - 1), none⟩ = some (.int .i64 y))) (by kernel_rfl) ?_ (fun hHeld0 => ?_)
  · (try dsimp only); go_keep
  refine wpAnyH_take (i := 0) (oi := { dst := some 5, op := Op.move (Operand.tmp 0), type := 181, pos := "loop.go:213", after := #[], guard := none }) (v := ?_) rfl (by kernel_rfl) (by kernel_rfl) (by kernel_rfl) (fun _ _ _ h => h) (Or.inl ⟨by rfl, ?_⟩) (by assumption) ?_
  rotate_left
  · (intro w hSw; (try dsimp only at hSw); go_simp); (try with_reducible rfl)
  try simp only [Act.put, List.setIfInBounds_toArray, List.set_cons_zero, List.set_cons_succ]
  refine wpAnyH_take (i := 1) (oi := { dst := some 6, op := Op.indexAddr 181 (Operand.tmp 5) (Operand.const (Value.int IntKind.i64 0)), type := 0, pos := "loop.go:213", after := #[{ on := 0, ground := Ground.data }], guard := none }) (v := ?_) rfl (by kernel_rfl) (by kernel_rfl) (by kernel_rfl) (fun _ _ _ h => h) (Or.inl ⟨by rfl, ?_⟩) (by assumption) ?_
  rotate_left
  · (intro w hSw; (try dsimp only at hSw); go_simp); (try with_reducible rfl)
  try simp only [Act.put, List.setIfInBounds_toArray, List.set_cons_zero, List.set_cons_succ]
  refine wpAnyH_take (i := 2) (oi := { dst := some 7, op := Op.load 3 (Operand.tmp 6), type := 3, pos := "loop.go:213", after := #[{ on := 1, ground := Ground.data }], guard := none }) (v := ?_) rfl (by kernel_rfl) (by kernel_rfl) (by kernel_rfl) (fun _ _ _ h => h) (Or.inl ⟨by rfl, ?_⟩) (by assumption) ?_
  rotate_left
  · (intro w hSw; (try dsimp only at hSw); go_simp); (try with_reducible rfl)
  try simp only [Act.put, List.setIfInBounds_toArray, List.set_cons_zero, List.set_cons_succ]
  refine wpAnyH_take (i := 3) (oi := { dst := some 8, op := Op.move (Operand.tmp 0), type := 181, pos := "loop.go:213", after := #[{ on := 9, ground := Ground.gcOnly Departure.lateStores }], guard := none }) (v := ?_) rfl (by kernel_rfl) (by kernel_rfl) (by kernel_rfl) (fun _ _ _ h => h) (Or.inl ⟨by rfl, ?_⟩) (by assumption) ?_
  rotate_left
  · (intro w hSw; (try dsimp only at hSw); go_simp); (try with_reducible rfl)
  try simp only [Act.put, List.setIfInBounds_toArray, List.set_cons_zero, List.set_cons_succ]
  refine wpAnyH_take (i := 4) (oi := { dst := some 9, op := Op.move (Operand.tmp 0), type := 181, pos := "loop.go:213", after := #[], guard := none }) (v := ?_) rfl (by kernel_rfl) (by kernel_rfl) (by kernel_rfl) (fun _ _ _ h => h) (Or.inl ⟨by rfl, ?_⟩) (by assumption) ?_
  rotate_left
  · (intro w hSw; (try dsimp only at hSw); go_simp); (try with_reducible rfl)
  try simp only [Act.put, List.setIfInBounds_toArray, List.set_cons_zero, List.set_cons_succ]
  refine wpAnyH_take (i := 5) (oi := { dst := some 10, op := Op.call { callee := Callee.builtin Builtin.len, args := #[Operand.tmp 9], argTypes := #[181] }, type := 3, pos := "loop.go:213", after := #[{ on := 4, ground := Ground.data }], guard := none }) (v := ?_) rfl (by kernel_rfl) (by kernel_rfl) (by kernel_rfl) (fun _ _ _ h => h) (Or.inl ⟨by rfl, ?_⟩) (by assumption) ?_
  rotate_left
  · (intro w hSw; (try dsimp only at hSw); go_simp); (try with_reducible rfl)
  try simp only [Act.put, List.setIfInBounds_toArray, List.set_cons_zero, List.set_cons_succ]
  refine wpAnyH_take (i := 6) (oi := { dst := some 11, op := Op.binOp BinOp.sub 3 (Operand.tmp 10) (Operand.const (Value.int IntKind.i64 1)) 3, type := 3, pos := "loop.go:213", after := #[{ on := 5, ground := Ground.data }, { on := 9, ground := Ground.gcOnly Departure.lateStores }], guard := none }) (v := ?_) rfl (by kernel_rfl) (by kernel_rfl) (by kernel_rfl) (fun _ _ _ h => h) (Or.inl ⟨by rfl, ?_⟩) (by assumption) ?_
  rotate_left
  · (intro w hSw; (try dsimp only at hSw); go_simp); (try with_reducible rfl)
  try simp only [Act.put, List.setIfInBounds_toArray, List.set_cons_zero, List.set_cons_succ]
  refine wpAnyH_take (i := 7) (oi := { dst := some 12, op := Op.indexAddr 181 (Operand.tmp 8) (Operand.tmp 11), type := 0, pos := "loop.go:213", after := #[{ on := 3, ground := Ground.data }, { on := 6, ground := Ground.data }, { on := 9, ground := Ground.gcOnly Departure.lateStores }], guard := none }) (v := ?_) rfl (by kernel_rfl) (by kernel_rfl) (by kernel_rfl) (fun _ _ _ h => h) (Or.inl ⟨by rfl, ?_⟩) (by assumption) ?_
  rotate_left
  · (intro w hSw; (try dsimp only at hSw); go_simp); (try with_reducible rfl)
  try simp only [Act.put, List.setIfInBounds_toArray, List.set_cons_zero, List.set_cons_succ]
  refine wpAnyH_take (i := 8) (oi := { dst := some 13, op := Op.load 3 (Operand.tmp 12), type := 3, pos := "loop.go:213", after := #[{ on := 7, ground := Ground.data }, { on := 9, ground := Ground.gcOnly Departure.lateStores }], guard := none }) (v := ?_) rfl (by kernel_rfl) (by kernel_rfl) (by kernel_rfl) (fun _ _ _ h => h) (Or.inl ⟨by rfl, ?_⟩) (by assumption) ?_
  rotate_left
  · (intro w hSw; (try dsimp only at hSw); go_simp); (try with_reducible rfl)
  try simp only [Act.put, List.setIfInBounds_toArray, List.set_cons_zero, List.set_cons_succ]
  refine wpAnyH_take (i := 9) (oi := { dst := some 3, op := Op.assign (Operand.tmp 7), type := 3, pos := "loop.go:213", after := #[{ on := 2, ground := Ground.data }, { on := 0, ground := Ground.phase }, { on := 1, ground := Ground.phase }, { on := 2, ground := Ground.phase }, { on := 3, ground := Ground.textOnly Departure.lateStores }, { on := 4, ground := Ground.textOnly Departure.lateStores }, { on := 5, ground := Ground.textOnly Departure.lateStoresUnsure }, { on := 6, ground := Ground.textOnly Departure.lateStores }, { on := 7, ground := Ground.textOnly Departure.lateStores }, { on := 8, ground := Ground.textOnly Departure.lateStores }], guard := none }) (v := ?_) rfl (by kernel_rfl) (by kernel_rfl) (by kernel_rfl) (fun _ _ _ h => h) (Or.inl ⟨by rfl, ?_⟩) (by assumption) ?_
  rotate_left
  · (intro w hSw; (try dsimp only at hSw); go_simp); (try with_reducible rfl)
  try simp only [Act.put, List.setIfInBounds_toArray, List.set_cons_zero, List.set_cons_succ]
  refine wpAnyH_take (i := 10) (oi := { dst := some 4, op := Op.assign (Operand.tmp 13), type := 3, pos := "loop.go:213", after := #[{ on := 8, ground := Ground.data }, { on := 9, ground := Ground.chain }, { on := 0, ground := Ground.phase }, { on := 1, ground := Ground.phase }, { on := 2, ground := Ground.phase }, { on := 3, ground := Ground.phase }, { on := 4, ground := Ground.phase }, { on := 5, ground := Ground.phase }, { on := 6, ground := Ground.phase }, { on := 7, ground := Ground.phase }, { on := 8, ground := Ground.phase }, { on := 9, ground := Ground.phase }], guard := none }) (v := ?_) rfl (by kernel_rfl) (by kernel_rfl) (by kernel_rfl) (fun _ _ _ h => h) (Or.inl ⟨by rfl, ?_⟩) (by assumption) ?_
  rotate_left
  · (intro w hSw; (try dsimp only at hSw); go_simp); (try with_reducible rfl)
  try simp only [Act.put, List.setIfInBounds_toArray, List.set_cons_zero, List.set_cons_succ]
  refine wpAnyH_done (by kernel_rfl) ?_ _
  clear hHeld0
  clear a0 a1 a2 a3 a4 c0 c1 hp
  go_wp2
  all_goals
    go_ret
    refine ⟨ret_bool ?_, (Below.refl _ _).drew⟩
    unfold absW
    congr 1
    apply propext
    omega


/-- the row after a row. -/
def nextAt (l : List Int) (i : Nat) : Int := wrap64 (wrap64 (l[l.length - 1]?.getD 0 * l[i + 1]?.getD 0) - wrap64 (l[0]?.getD 0 * l[l.length - 2 - i]?.getD 0))
def nextL (l : List Int) : List Int := upto (nextAt l) (l.length - 1)

set_option maxRecDepth 100000 in
set_option maxHeartbeats 1000000 in
theorem next_any (v : Value) (l : List Int) (w : World) (hp : Ints w v l) (hl : l.length ≤ 1000000000) (h0 : 0 < l.length) :
    Calls Tryz.prog 174 #[v] w fun e W' => (∃ u, e = .returned u ∧ OwnI 3 w.heap.size W' u (nextL l)) ∧ Below w.heap.size w W' := by
  obtain ⟨b, o, cap, rfl, hc⟩ := hp.head h0
  have hmk := run_make_row' (P := Tryz.prog) 181 3 (.int .i64 0) 8 Tryz.underlying181 Tryz.infoInt rfl .i64 .i64 (l.length - 1) (by omega) (by omega)
  rw [ia_made] at hmk
  rw [show ((l.length - 1 : Nat) : Int) = (l.length : Int) - 1 from by omega] at hmk
  have a1 : IntKind.i64.wrap ((l.length : Int) - 1) = (l.length : Int) - 1 := IntWalk.i64_in _ (by omega)
  go_enter Tryz.func174, Tryz.ntmps174
  go_wp2_with fail
  clear hmk
  have hB0 := below_new w (.cells (ia (List.replicate (l.length - 1) 0)) 3)
  have hC0 := BlkI.new w 3 (List.replicate (l.length - 1) 0)
  obtain ⟨W, hW⟩ : ∃ W, W = w.alloc (.cells (ia (List.replicate (l.length - 1) 0)) 3) := ⟨_, rfl⟩
  rw [← hW] at hB0 hC0 ⊢
  clear hW
  go_loopw [13] (fun i wr => ∃ k : Nat, k ≤ l.length - 1 ∧ i = .int .i64 k ∧ Below w.heap.size w wr ∧ BlkI wr w.heap.size 3 (upto (nextAt l) k ++ List.replicate (l.length - 1 - k) 0)) (fun i _ => l.length - (intOf i).toNat)
  case atStart => exact ⟨0, by omega, rfl, hB0, by simpa [upto] using hC0⟩
  case round =>
    obtain ⟨k, hk, rfl, hbr, hcr⟩ := hrel
    by_cases hlt : k < l.length - 1
    · have cA := hc (l.length - 1) (by omega)
      have cB := hc (k + 1) (by omega)
      have cC := hc 0 (by omega)
      have cD := hc (l.length - 2 - k) (by omega)
      rw [Nat.add_zero] at cC
      have hX : nextAt l k = wrap64 (wrap64 (l[l.length - 1]?.getD 0 * l[k + 1]?.getD 0) - wrap64 (l[0]?.getD 0 * l[l.length - 2 - k]?.getD 0)) := rfl
      have hset : ∀ x, x = nextAt l k → (upto (nextAt l) k ++ List.replicate (l.length - 1 - k) 0).set k x = upto (nextAt l) (k + 1) ++ List.replicate (l.length - 1 - (k + 1)) 0 := fun x hx => by
        subst hx
        rw [List.set_append_right _ _ (by rw [upto_length]; exact Nat.le_refl _), upto_length, Nat.sub_self, show l.length - 1 - k = (l.length - 1 - (k + 1)) + 1 from by omega, List.replicate_succ, List.set_cons_zero, upto_succ]
        simp
      have hlenL : (upto (nextAt l) k ++ List.replicate (l.length - 1 - k) 0).length = l.length - 1 := by simp [upto_length]; omega
      generalize upto (nextAt l) k ++ List.replicate (l.length - 1 - k) 0 = L at hcr hset hlenL
      rw [hX] at hset
      generalize l[l.length - 1]?.getD 0 = A at cA hset
      generalize l[k + 1]?.getD 0 = B at cB hset
      generalize l[0]?.getD 0 = C at cC hset
      generalize l[l.length - 2 - k]?.getD 0 = D at cD hset
      have HS := Lib.hid hset
      clear hset hX
      have e1 : IntKind.i64.wrap ((k : Int) + 1) = (k : Int) + 1 := IntWalk.i64_in _ (by omega)
      have e2 : IntKind.i64.wrap ((l.length : Int) - 1 - 1) = (l.length : Int) - 1 - 1 := IntWalk.i64_in _ (by omega)
      have e3 : IntKind.i64.wrap ((l.length : Int) - 1 - 1 - (k : Int)) = (l.length : Int) - 1 - 1 - (k : Int) := IntWalk.i64_in _ (by omega)
      have g1 : (1 : Int) ≤ (l.length : Int) := by omega
      have g2 : (l.length : Int) - 1 < (l.length : Int) := by omega
      have g3 : (0 : Int) ≤ (k : Int) + 1 := by omega
      have g4 : (k : Int) + 1 < (l.length : Int) := by omega
      have g5 : (k : Int) ≤ (l.length : Int) - 1 - 1 := by omega
      have g6 : (l.length : Int) - 1 - 1 - (k : Int) < (l.length : Int) := by omega
      have g7 : (k : Int) < (l.length : Int) - 1 := by omega
      have t1 : ((l.length : Int) - 1).toNat = l.length - 1 := by omega
      have t2 : ((k : Int) + 1).toNat = k + 1 := by omega
      have t3 : ((l.length : Int) - 1 - 1 - (k : Int)).toNat = l.length - 2 - k := by omega
      go_wp2_with fail
      refine wp_region_held_drew (S := (fun w' => w'.cell? ⟨b, o + (l.length - 1), none⟩ = some (.int .i64 A) ∧ w'.cell? ⟨b, o + (k + 1), none⟩ = some (.int .i64 B) ∧ w'.cell? ⟨b, o, none⟩ = some (.int .i64 C) ∧ w'.cell? ⟨b, o + (l.length - 2 - k), none⟩ = some (.int .i64 D))) (by kernel_rfl) ⟨cellb cA hbr.drew, cellb cB hbr.drew, cellb cC hbr.drew, cellb cD hbr.drew⟩ (fun hHeld0 => ?_)
      obtain ⟨wzd, hwz⟩ : ∃ v, v = wr.drew := ⟨_, rfl⟩
      rw [← hwz] at hHeld0 ⊢
      have hbzd : Below w.heap.size w wzd := by rw [hwz]; exact hbr.drew
      have hlzd : Below wr.heap.size wr wzd := by rw [hwz]; exact (Below.refl _ _).drew
      have hcr := hcr.carry hlzd
      clear hwz hlzd
      refine wpAnyH_take (i := 0) (oi := { dst := some 16, op := Op.move (Operand.tmp 4), type := 181, pos := "loop.go:222", after := #[], guard := none }) (v := ?_) rfl (by kernel_rfl) (by kernel_rfl) (by kernel_rfl) (fun _ _ _ h => h) (Or.inl ⟨by rfl, ?_⟩) (by assumption) ?_
      rotate_left
      · (intro w hSw; (try dsimp only at hSw); go_simp); (try with_reducible rfl)
      try simp only [Act.put, List.setIfInBounds_toArray, List.set_cons_zero, List.set_cons_succ]
      refine wpAnyH_take (i := 1) (oi := { dst := some 17, op := Op.move (Operand.tmp 5), type := 3, pos := "loop.go:222", after := #[], guard := none }) (v := ?_) rfl (by kernel_rfl) (by kernel_rfl) (by kernel_rfl) (fun _ _ _ h => h) (Or.inl ⟨by rfl, ?_⟩) (by assumption) ?_
      rotate_left
      · (intro w hSw; (try dsimp only at hSw); go_simp); (try with_reducible rfl)
      try simp only [Act.put, List.setIfInBounds_toArray, List.set_cons_zero, List.set_cons_succ]
      refine wpAnyH_take (i := 2) (oi := { dst := some 18, op := Op.move (Operand.tmp 0), type := 181, pos := "loop.go:222", after := #[], guard := none }) (v := ?_) rfl (by kernel_rfl) (by kernel_rfl) (by kernel_rfl) (fun _ _ _ h => h) (Or.inl ⟨by rfl, ?_⟩) (by assumption) ?_
      rotate_left
      · (intro w hSw; (try dsimp only at hSw); go_simp); (try with_reducible rfl)
      try simp only [Act.put, List.setIfInBounds_toArray, List.set_cons_zero, List.set_cons_succ]
      refine wpAnyH_take (i := 3) (oi := { dst := some 19, op := Op.move (Operand.tmp 3), type := 3, pos := "loop.go:222", after := #[], guard := none }) (v := ?_) rfl (by kernel_rfl) (by kernel_rfl) (by kernel_rfl) (fun _ _ _ h => h) (Or.inl ⟨by rfl, ?_⟩) (by assumption) ?_
      rotate_left
      · (intro w hSw; (try dsimp only at hSw); go_simp); (try with_reducible rfl)
      try simp only [Act.put, List.setIfInBounds_toArray, List.set_cons_zero, List.set_cons_succ]
      refine wpAnyH_take (i := 4) (oi := { dst := some 20, op := Op.indexAddr 181 (Operand.tmp 18) (Operand.tmp 19), type := 0, pos := "loop.go:222", after := #[{ on := 2, ground := Ground.data }, { on := 3, ground := Ground.data }], guard := none }) (v := ?_) rfl (by kernel_rfl) (by kernel_rfl) (by kernel_rfl) (fun _ _ _ h => h) (Or.inl ⟨by rfl, ?_⟩) (by assumption) ?_
      rotate_left
      · (intro w hSw; (try dsimp only at hSw); go_simp); (try with_reducible rfl)
      try simp only [Act.put, List.setIfInBounds_toArray, List.set_cons_zero, List.set_cons_succ]
      refine wpAnyH_take (i := 5) (oi := { dst := some 21, op := Op.load 3 (Operand.tmp 20), type := 3, pos := "loop.go:222", after := #[{ on := 4, ground := Ground.data }], guard := none }) (v := ?_) rfl (by kernel_rfl) (by kernel_rfl) (by kernel_rfl) (fun _ _ _ h => h) (Or.inl ⟨by rfl, ?_⟩) (by assumption) ?_
      rotate_left
      · (intro w hSw; (try dsimp only at hSw); go_simp); (try with_reducible rfl)
      try simp only [Act.put, List.setIfInBounds_toArray, List.set_cons_zero, List.set_cons_succ]
      refine wpAnyH_take (i := 6) (oi := { dst := some 22, op := Op.move (Operand.tmp 0), type := 181, pos := "loop.go:222", after := #[], guard := none }) (v := ?_) rfl (by kernel_rfl) (by kernel_rfl) (by kernel_rfl) (fun _ _ _ h => h) (Or.inl ⟨by rfl, ?_⟩) (by assumption) ?_
      rotate_left
      · (intro w hSw; (try dsimp only at hSw); go_simp); (try with_reducible rfl)
      try simp only [Act.put, List.setIfInBounds_toArray, List.set_cons_zero, List.set_cons_succ]
      refine wpAnyH_take (i := 7) (oi := { dst := some 23, op := Op.move (Operand.tmp 5), type := 3, pos := "loop.go:222", after := #[], guard := none }) (v := ?_) rfl (by kernel_rfl) (by kernel_rfl) (by kernel_rfl) (fun _ _ _ h => h) (Or.inl ⟨by rfl, ?_⟩) (by assumption) ?_
      rotate_left
      · (intro w hSw; (try dsimp only at hSw); go_simp); (try with_reducible rfl)
      try simp only [Act.put, List.setIfInBounds_toArray, List.set_cons_zero, List.set_cons_succ]
      refine wpAnyH_take (i := 8) (oi := { dst := some 24, op := Op.binOp BinOp.add 3 (Operand.tmp 23) (Operand.const (Value.int IntKind.i64 1)) 3, type := 3, pos := "loop.go:222", after := #[{ on := 7, ground := Ground.data }], guard := none }) (v := ?_) rfl (by kernel_rfl) (by kernel_rfl) (by kernel_rfl) (fun _ _ _ h => h) (Or.inl ⟨by rfl, ?_⟩) (by assumption) ?_
      rotate_left
      · (intro w hSw; (try dsimp only at hSw); go_simp); (try with_reducible rfl)
      try simp only [Act.put, List.setIfInBounds_toArray, List.set_cons_zero, List.set_cons_succ]
      refine wpAnyH_take (i := 9) (oi := { dst := some 25, op := Op.indexAddr 181 (Operand.tmp 22) (Operand.tmp 24), type := 0, pos := "loop.go:222", after := #[{ on := 6, ground := Ground.data }, { on := 8, ground := Ground.data }], guard := none }) (v := ?_) rfl (by kernel_rfl) (by kernel_rfl) (by kernel_rfl) (fun _ _ _ h => h) (Or.inl ⟨by rfl, ?_⟩) (by assumption) ?_
      rotate_left
      · (intro w hSw; (try dsimp only at hSw); go_simp); (try with_reducible rfl)
      try simp only [Act.put, List.setIfInBounds_toArray, List.set_cons_zero, List.set_cons_succ]
      refine wpAnyH_take (i := 10) (oi := { dst := some 26, op := Op.load 3 (Operand.tmp 25), type := 3, pos := "loop.go:222", after := #[{ on := 9, ground := Ground.data }], guard := none }) (v := ?_) rfl (by kernel_rfl) (by kernel_rfl) (by kernel_rfl) (fun _ _ _ h => h) (Or.inl ⟨by rfl, ?_⟩) (by assumption) ?_
      rotate_left
      · (intro w hSw; (try dsimp only at hSw); go_simp); (try with_reducible rfl)
      try simp only [Act.put, List.setIfInBounds_toArray, List.set_cons_zero, List.set_cons_succ]
      refine wpAnyH_take (i := 11) (oi := { dst := some 27, op := Op.binOp BinOp.mul 3 (Operand.tmp 21) (Operand.tmp 26) 3, type := 3, pos := "loop.go:222", after := #[{ on := 5, ground := Ground.data }, { on := 10, ground := Ground.data }], guard := none }) (v := ?_) rfl (by kernel_rfl) (by kernel_rfl) (by kernel_rfl) (fun _ _ _ h => h) (Or.inl ⟨by rfl, ?_⟩) (by assumption) ?_
      rotate_left
      · (intro w hSw; (try dsimp only at hSw); go_simp); (try with_reducible rfl)
      try simp only [Act.put, List.setIfInBounds_toArray, List.set_cons_zero, List.set_cons_succ]
      refine wpAnyH_take (i := 12) (oi := { dst := some 28, op := Op.move (Operand.tmp 0), type := 181, pos := "loop.go:222", after := #[], guard := none }) (v := ?_) rfl (by kernel_rfl) (by kernel_rfl) (by kernel_rfl) (fun _ _ _ h => h) (Or.inl ⟨by rfl, ?_⟩) (by assumption) ?_
      rotate_left
      · (intro w hSw; (try dsimp only at hSw); go_simp); (try with_reducible rfl)
      try simp only [Act.put, List.setIfInBounds_toArray, List.set_cons_zero, List.set_cons_succ]
      refine wpAnyH_take (i := 13) (oi := { dst := some 29, op := Op.indexAddr 181 (Operand.tmp 28) (Operand.const (Value.int IntKind.i64 0)), type := 0, pos := "loop.go:222", after := #[{ on := 12, ground := Ground.data }], guard := none }) (v := ?_) rfl (by kernel_rfl) (by kernel_rfl) (by kernel_rfl) (fun _ _ _ h => h) (Or.inl ⟨by rfl, ?_⟩) (by assumption) ?_
      rotate_left
      · (intro w hSw; (try dsimp only at hSw); go_simp); (try with_reducible rfl)
      try simp only [Act.put, List.setIfInBounds_toArray, List.set_cons_zero, List.set_cons_succ]
      refine wpAnyH_take (i := 14) (oi := { dst := some 30, op := Op.load 3 (Operand.tmp 29), type := 3, pos := "loop.go:222", after := #[{ on := 13, ground := Ground.data }], guard := none }) (v := ?_) rfl (by kernel_rfl) (by kernel_rfl) (by kernel_rfl) (fun _ _ _ h => h) (Or.inl ⟨by rfl, ?_⟩) (by assumption) ?_
      rotate_left
      · (intro w hSw; (try dsimp only at hSw); go_simp); (try with_reducible rfl)
      try simp only [Act.put, List.setIfInBounds_toArray, List.set_cons_zero, List.set_cons_succ]
      refine wpAnyH_take (i := 15) (oi := { dst := some 31, op := Op.move (Operand.tmp 0), type := 181, pos := "loop.go:222", after := #[], guard := none }) (v := ?_) rfl (by kernel_rfl) (by kernel_rfl) (by kernel_rfl) (fun _ _ _ h => h) (Or.inl ⟨by rfl, ?_⟩) (by assumption) ?_
      rotate_left
      · (intro w hSw; (try dsimp only at hSw); go_simp); (try with_reducible rfl)
      try simp only [Act.put, List.setIfInBounds_toArray, List.set_cons_zero, List.set_cons_succ]
      refine wpAnyH_take (i := 16) (oi := { dst := some 32, op := Op.move (Operand.tmp 3), type := 3, pos := "loop.go:222", after := #[], guard := none }) (v := ?_) rfl (by kernel_rfl) (by kernel_rfl) (by kernel_rfl) (fun _ _ _ h => h) (Or.inl ⟨by rfl, ?_⟩) (by assumption) ?_
      rotate_left
      · (intro w hSw; (try dsimp only at hSw); go_simp); (try with_reducible rfl)
      try simp only [Act.put, List.setIfInBounds_toArray, List.set_cons_zero, List.set_cons_succ]
      refine wpAnyH_take (i := 17) (oi := { dst := some 33, op := Op.binOp BinOp.sub 3 (Operand.tmp 32) (Operand.const (Value.int IntKind.i64 1)) 3, type := 3, pos := "loop.go:222", after := #[{ on := 16, ground := Ground.data }], guard := none }) (v := ?_) rfl (by kernel_rfl) (by kernel_rfl) (by kernel_rfl) (fun _ _ _ h => h) (Or.inl ⟨by rfl, ?_⟩) (by assumption) ?_
      rotate_left
      · (intro w hSw; (try dsimp only at hSw); go_simp); (try with_reducible rfl)
      try simp only [Act.put, List.setIfInBounds_toArray, List.set_cons_zero, List.set_cons_succ]
      refine wpAnyH_take (i := 18) (oi := { dst := some 34, op := Op.move (Operand.tmp 5), type := 3, pos := "loop.go:222", after := #[], guard := none }) (v := ?_) rfl (by kernel_rfl) (by kernel_rfl) (by kernel_rfl) (fun _ _ _ h => h) (Or.inl ⟨by rfl, ?_⟩) (by assumption) ?_
      rotate_left
      · (intro w hSw; (try dsimp only at hSw); go_simp); (try with_reducible rfl)
      try simp only [Act.put, List.setIfInBounds_toArray, List.set_cons_zero, List.set_cons_succ]
      refine wpAnyH_take (i := 19) (oi := { dst := some 35, op := Op.binOp BinOp.sub 3 (Operand.tmp 33) (Operand.tmp 34) 3, type := 3, pos := "loop.go:222", after := #[{ on := 17, ground := Ground.data }, { on := 18, ground := Ground.data }], guard := none }) (v := ?_) rfl (by kernel_rfl) (by kernel_rfl) (by kernel_rfl) (fun _ _ _ h => h) (Or.inl ⟨by rfl, ?_⟩) (by assumption) ?_
      rotate_left
      · (intro w hSw; (try dsimp only at hSw); go_simp); (try with_reducible rfl)
      try simp only [Act.put, List.setIfInBounds_toArray, List.set_cons_zero, List.set_cons_succ]
      refine wpAnyH_take (i := 20) (oi := { dst := some 36, op := Op.indexAddr 181 (Operand.tmp 31) (Operand.tmp 35), type := 0, pos := "loop.go:222", after := #[{ on := 15, ground := Ground.data }, { on := 19, ground := Ground.data }], guard := none }) (v := ?_) rfl (by kernel_rfl) (by kernel_rfl) (by kernel_rfl) (fun _ _ _ h => h) (Or.inl ⟨by rfl, ?_⟩) (by assumption) ?_
      rotate_left
      · (intro w hSw; (try dsimp only at hSw); go_simp); (try with_reducible rfl)
      try simp only [Act.put, List.setIfInBounds_toArray, List.set_cons_zero, List.set_cons_succ]
      refine wpAnyH_take (i := 21) (oi := { dst := some 37, op := Op.load 3 (Operand.tmp 36), type := 3, pos := "loop.go:222", after := #[{ on := 20, ground := Ground.data }], guard := none }) (v := ?_) rfl (by kernel_rfl) (by kernel_rfl) (by kernel_rfl) (fun _ _ _ h => h) (Or.inl ⟨by rfl, ?_⟩) (by assumption) ?_
      rotate_left
      · (intro w hSw; (try dsimp only at hSw); go_simp); (try with_reducible rfl)
      try simp only [Act.put, List.setIfInBounds_toArray, List.set_cons_zero, List.set_cons_succ]
      refine wpAnyH_take (i := 22) (oi := { dst := some 38, op := Op.binOp BinOp.mul 3 (Operand.tmp 30) (Operand.tmp 37) 3, type := 3, pos := "loop.go:222", after := #[{ on := 14, ground := Ground.data }, { on := 21, ground := Ground.data }], guard := none }) (v := ?_) rfl (by kernel_rfl) (by kernel_rfl) (by kernel_rfl) (fun _ _ _ h => h) (Or.inl ⟨by rfl, ?_⟩) (by assumption) ?_
      rotate_left
      · (intro w hSw; (try dsimp only at hSw); go_simp); (try with_reducible rfl)
      try simp only [Act.put, List.setIfInBounds_toArray, List.set_cons_zero, List.set_cons_succ]
      refine wpAnyH_take (i := 23) (oi := { dst := some 39, op := Op.binOp BinOp.sub 3 (Operand.tmp 27) (Operand.tmp 38) 3, type := 3, pos := "loop.go:222", after := #[{ on := 11, ground := Ground.data }, { on := 22, ground := Ground.data }], guard := none }) (v := ?_) rfl (by kernel_rfl) (by kernel_rfl) (by kernel_rfl) (fun _ _ _ h => h) (Or.inl ⟨by rfl, ?_⟩) (by assumption) ?_
      rotate_left
      · (intro w hSw; (try dsimp only at hSw); go_simp); (try with_reducible rfl)
      try simp only [Act.put, List.setIfInBounds_toArray, List.set_cons_zero, List.set_cons_succ]
      refine wpAnyH_take (i := 24) (oi := { dst := some 40, op := Op.indexAddr 181 (Operand.tmp 16) (Operand.tmp 17), type := 0, pos := "loop.go:222", after := #[{ on := 0, ground := Ground.data }, { on := 1, ground := Ground.data }, { on := 0, ground := Ground.phase }, { on := 1, ground := Ground.phase }, { on := 2, ground := Ground.phase }, { on := 3, ground := Ground.phase }, { on := 4, ground := Ground.phase }, { on := 5, ground := Ground.phase }, { on := 6, ground := Ground.phase }, { on := 7, ground := Ground.phase }, { on := 8, ground := Ground.phase }, { on := 9, ground := Ground.phase }, { on := 10, ground := Ground.phase }, { on := 11, ground := Ground.phase }, { on := 12, ground := Ground.phase }, { on := 13, ground := Ground.phase }, { on := 14, ground := Ground.phase }, { on := 15, ground := Ground.phase }, { on := 16, ground := Ground.phase }, { on := 17, ground := Ground.phase }, { on := 18, ground := Ground.phase }, { on := 19, ground := Ground.phase }, { on := 20, ground := Ground.phase }, { on := 21, ground := Ground.phase }, { on := 22, ground := Ground.phase }, { on := 23, ground := Ground.phase }], guard := none }) (v := ?_) rfl (by kernel_rfl) (by kernel_rfl) (by kernel_rfl) (fun _ _ _ h => h) (Or.inl ⟨by rfl, ?_⟩) (by assumption) ?_
      rotate_left
      · (intro w hSw; (try dsimp only at hSw); go_simp); (try with_reducible rfl)
      try simp only [Act.put, List.setIfInBounds_toArray, List.set_cons_zero, List.set_cons_succ]
      refine wpAnyH_ready (rs := [25]) (by kernel_rfl) (by simp) ?_
      refine (AllReadyH.cons (o := { dst := none, op := Op.store 3 (Operand.tmp 40) (Operand.tmp 39), type := 0, pos := "loop.go:222", after := #[{ on := 24, ground := Ground.data }, { on := 23, ground := Ground.data }, { on := 0, ground := Ground.phase }, { on := 1, ground := Ground.phase }, { on := 2, ground := Ground.phase }, { on := 3, ground := Ground.phase }, { on := 4, ground := Ground.phase }, { on := 5, ground := Ground.phase }, { on := 6, ground := Ground.phase }, { on := 7, ground := Ground.phase }, { on := 8, ground := Ground.phase }, { on := 9, ground := Ground.phase }, { on := 10, ground := Ground.phase }, { on := 11, ground := Ground.phase }, { on := 12, ground := Ground.phase }, { on := 13, ground := Ground.phase }, { on := 14, ground := Ground.phase }, { on := 15, ground := Ground.phase }, { on := 16, ground := Ground.phase }, { on := 17, ground := Ground.phase }, { on := 18, ground := Ground.phase }, { on := 19, ground := Ground.phase }, { on := 20, ground := Ground.phase }, { on := 21, ground := Ground.phase }, { on := 22, ground := Ground.phase }, { on := 23, ground := Ground.phase }], guard := none }) rfl (fun K hK => ?_) AllReadyH.nil)
      have hcc := BlkI.cell hcr (j := k) (by omega)
      have hcf := Blk.frozen hcr k
      go_simp
      obtain ⟨wz25, hwz⟩ : ∃ v, v = wzd.setCell ⟨w.heap.size, k, none⟩ (.int .i64 (IntKind.i64.wrap (IntKind.i64.wrap (A * B) - IntKind.i64.wrap (C * D)))) := ⟨_, rfl⟩
      rw [← hwz]
      have hbz25 : Below w.heap.size w wz25 := by rw [hwz]; exact hbzd.setCell (by exact Nat.le_refl _) _
      have hcn := BlkI.set hcr k (IntKind.i64.wrap (IntKind.i64.wrap (A * B) - IntKind.i64.wrap (C * D)))
      rw [HS.out (IntKind.i64.wrap (IntKind.i64.wrap (A * B) - IntKind.i64.wrap (C * D))) (by simp only [wrapEq]), ← hwz] at hcn
      clear hwz
      refine hK.out _ _ ⟨cellb cA hbz25, cellb cB hbz25, cellb cC hbz25, cellb cD hbz25⟩ (fun hHeld1 => ?_)
      clear hK K hHeld0
      try simp only [Act.put, List.setIfInBounds_toArray, List.set_cons_zero, List.set_cons_succ]
      refine wpAnyH_done (by kernel_rfl) ?_ _
      clear hHeld1
      go_wp2
      go_roundw
      · exact ⟨k + 1, by omega, by go_num, hbz25, hcn⟩
      · simp [intOf]; omega
    · obtain rfl : k = l.length - 1 := by omega
      rw [Nat.sub_self, List.replicate_zero, List.append_nil] at hcr
      go_wp2
      go_ret
      exact ⟨⟨_, rfl, BlkI.own hcr _ (Nat.le_refl _) (upto_length _ _).symm (by rw [upto_length]; unfold maxLen; omega)⟩, hbr⟩

end Go.Proofs.YtnlmaildmeihgaaGreatDoor

/- the rows of a table: when a row fails, and the row after a row. -/
import Derived.Test.YtfdehcphmmhjaaaGreatDoorBlk
namespace Go.Proofs.YtfdehcphmmhjaaaGreatDoor
open Go.RowKit Go.Shelf

/-- the greater of a number and its opposite. -/
def absW (x : Int) : Int := max x (wrap64 (-x))
/-- does a row fail? -/
def failsB (l : List Int) : Bool := decide (absW (l[l.length - 1]?.getD 0) ≤ absW (l[0]?.getD 0))

set_option maxHeartbeats 1000000 in
theorem fails_any (v : Value) (l : List Int) (w : World) (hp : Ints w v l) (hl : l.length ≤ 1000000000) (h0 : 0 < l.length) :
    Calls Tryz.prog 97 #[v] w fun e W' => e = .returned (.bool (failsB l)) ∧ Below w.heap.size w W' := by
  obtain ⟨b, o, cap, rfl, hc⟩ := hp.head h0
  have c0 := hc 0 h0
  have c1 := hc (l.length - 1) (by omega)
  rw [Nat.add_zero] at c0
  obtain ⟨x, hx⟩ : ∃ x, x = l[0]?.getD 0 := ⟨_, rfl⟩
  obtain ⟨y, hy⟩ : ∃ y, y = l[l.length - 1]?.getD 0 := ⟨_, rfl⟩
  have hr : failsB l = decide (absW y ≤ absW x) := by rw [hx, hy]; rfl
  rw [hr]
  rw [← hx] at c0
  rw [← hy] at c1
  clear hx hy hr hc
  have a0 : (0 : Int) < (l.length : Int) := by omega
  have a1 : IntKind.i64.wrap ((l.length : Int) - 1) = (l.length : Int) - 1 := IntWalk.i64_in _ (by omega)
  have a2 : (1 : Int) ≤ (l.length : Int) := by omega
  have a4 : (l.length : Int) - 1 < (l.length : Int) := by omega
  have a3 : ((l.length : Int) - 1).toNat = l.length - 1 := by omega
  go_enter Tryz.func97, Tryz.ntmps97
  go_wp2_with fail
  refine wp_region_held_drew (S := (fun w' => w'.cell? ⟨b, o, none⟩ = some (.int .i64 x) ∧ w'.cell? ⟨b, o + (l.length - 1), none⟩ = some (.int .i64 y))) (by kernel_rfl) ?_ (fun hHeld0 => ?_)
  · (try dsimp only); go_keep
  refine wpAnyH_take (i := 0) (oi := { dst := some 5, op := Op.move (Operand.tmp 0), type := 126, pos := "loop.go:213", after := #[], guard := none }) (v := ?_) rfl (by kernel_rfl) (by kernel_rfl) (by kernel_rfl) (fun _ _ _ h => h) (Or.inl ⟨by rfl, ?_⟩) (by assumption) ?_
  rotate_left
  · (intro w hSw; (try dsimp only at hSw); go_simp); (try with_reducible rfl)
  try simp only [Act.put, List.setIfInBounds_toArray, List.set_cons_zero, List.set_cons_succ]
  refine wpAnyH_take (i := 1) (oi := { dst := some 6, op := Op.indexAddr 126 (Operand.tmp 5) (Operand.const (Value.int IntKind.i64 0)), type := 0, pos := "loop.go:213", after := #[{ on := 0, ground := Ground.data }], guard := none }) (v := ?_) rfl (by kernel_rfl) (by kernel_rfl) (by kernel_rfl) (fun _ _ _ h => h) (Or.inl ⟨by rfl, ?_⟩) (by assumption) ?_
  rotate_left
  · (intro w hSw; (try dsimp only at hSw); go_simp); (try with_reducible rfl)
  try simp only [Act.put, List.setIfInBounds_toArray, List.set_cons_zero, List.set_cons_succ]
  refine wpAnyH_take (i := 2) (oi := { dst := some 7, op := Op.load 3 (Operand.tmp 6), type := 3, pos := "loop.go:213", after := #[{ on := 1, ground := Ground.data }], guard := none }) (v := ?_) rfl (by kernel_rfl) (by kernel_rfl) (by kernel_rfl) (fun _ _ _ h => h) (Or.inl ⟨by rfl, ?_⟩) (by assumption) ?_
  rotate_left
  · (intro w hSw; (try dsimp only at hSw); go_simp); (try with_reducible rfl)
  try simp only [Act.put, List.setIfInBounds_toArray, List.set_cons_zero, List.set_cons_succ]
  refine wpAnyH_take (i := 3) (oi := { dst := some 8, op := Op.move (Operand.tmp 0), type := 126, pos := "loop.go:213", after := #[{ on := 9, ground := Ground.gcOnly Departure.lateStores }], guard := none }) (v := ?_) rfl (by kernel_rfl) (by kernel_rfl) (by kernel_rfl) (fun _ _ _ h => h) (Or.inl ⟨by rfl, ?_⟩) (by assumption) ?_
  rotate_left
  · (intro w hSw; (try dsimp only at hSw); go_simp); (try with_reducible rfl)
  try simp only [Act.put, List.setIfInBounds_toArray, List.set_cons_zero, List.set_cons_succ]
  refine wpAnyH_take (i := 4) (oi := { dst := some 9, op := Op.move (Operand.tmp 0), type := 126, pos := "loop.go:213", after := #[], guard := none }) (v := ?_) rfl (by kernel_rfl) (by kernel_rfl) (by kernel_rfl) (fun _ _ _ h => h) (Or.inl ⟨by rfl, ?_⟩) (by assumption) ?_
  rotate_left
  · (intro w hSw; (try dsimp only at hSw); go_simp); (try with_reducible rfl)
  try simp only [Act.put, List.setIfInBounds_toArray, List.set_cons_zero, List.set_cons_succ]
  refine wpAnyH_take (i := 5) (oi := { dst := some 10, op := Op.call { callee := Callee.builtin Builtin.len, args := #[Operand.tmp 9], argTypes := #[126] }, type := 3, pos := "loop.go:213", after := #[{ on := 4, ground := Ground.data }], guard := none }) (v := ?_) rfl (by kernel_rfl) (by kernel_rfl) (by kernel_rfl) (fun _ _ _ h => h) (Or.inl ⟨by rfl, ?_⟩) (by assumption) ?_
  rotate_left
  · (intro w hSw; (try dsimp only at hSw); go_simp); (try with_reducible rfl)
  try simp only [Act.put, List.setIfInBounds_toArray, List.set_cons_zero, List.set_cons_succ]
  refine wpAnyH_take (i := 6) (oi := { dst := some 11, op := Op.binOp BinOp.sub 3 (Operand.tmp 10) (Operand.const (Value.int IntKind.i64 1)) 3, type := 3, pos := "loop.go:213", after := #[{ on := 5, ground := Ground.data }, { on := 9, ground := Ground.gcOnly Departure.lateStores }], guard := none }) (v := ?_) rfl (by kernel_rfl) (by kernel_rfl) (by kernel_rfl) (fun _ _ _ h => h) (Or.inl ⟨by rfl, ?_⟩) (by assumption) ?_
  rotate_left
  · (intro w hSw; (try dsimp only at hSw); go_simp); (try with_reducible rfl)
  try simp only [Act.put, List.setIfInBounds_toArray, List.set_cons_zero, List.set_cons_succ]
  refine wpAnyH_take (i := 7) (oi := { dst := some 12, op := Op.indexAddr 126 (Operand.tmp 8) (Operand.tmp 11), type := 0, pos := "loop.go:213", after := #[{ on := 3, ground := Ground.data }, { on := 6, ground := Ground.data }, { on := 9, ground := Ground.gcOnly Departure.lateStores }], guard := none }) (v := ?_) rfl (by kernel_rfl) (by kernel_rfl) (by kernel_rfl) (fun _ _ _ h => h) (Or.inl ⟨by rfl, ?_⟩) (by assumption) ?_
  rotate_left
  · (intro w hSw; (try dsimp only at hSw); go_simp); (try with_reducible rfl)
  try simp only [Act.put, List.setIfInBounds_toArray, List.set_cons_zero, List.set_cons_succ]
  refine wpAnyH_take (i := 8) (oi := { dst := some 13, op := Op.load 3 (Operand.tmp 12), type := 3, pos := "loop.go:213", after := #[{ on := 7, ground := Ground.data }, { on := 9, ground := Ground.gcOnly Departure.lateStores }], guard := none }) (v := ?_) rfl (by kernel_rfl) (by kernel_rfl) (by kernel_rfl) (fun _ _ _ h => h) (Or.inl ⟨by rfl, ?_⟩) (by assumption) ?_
  rotate_left
  · (intro w hSw; (try dsimp only at hSw); go_simp); (try with_reducible rfl)
  try simp only [Act.put, List.setIfInBounds_toArray, List.set_cons_zero, List.set_cons_succ]
  refine wpAnyH_take (i := 9) (oi := { dst := some 3, op := Op.assign (Operand.tmp 7), type := 3, pos := "loop.go:213", after := #[{ on := 2, ground := Ground.data }, { on := 0, ground := Ground.phase }, { on := 1, ground := Ground.phase }, { on := 2, ground := Ground.phase }, { on := 3, ground := Ground.textOnly Departure.lateStores }, { on := 4, ground := Ground.textOnly Departure.lateStores }, { on := 5, ground := Ground.textOnly Departure.lateStoresUnsure }, { on := 6, ground := Ground.textOnly Departure.lateStores }, { on := 7, ground := Ground.textOnly Departure.lateStores }, { on := 8, ground := Ground.textOnly Departure.lateStores }], guard := none }) (v := ?_) rfl (by kernel_rfl) (by kernel_rfl) (by kernel_rfl) (fun _ _ _ h => h) (Or.inl ⟨by rfl, ?_⟩) (by assumption) ?_
  rotate_left
  · (intro w hSw; (try dsimp only at hSw); go_simp); (try with_reducible rfl)
  try simp only [Act.put, List.setIfInBounds_toArray, List.set_cons_zero, List.set_cons_succ]
  refine wpAnyH_take (i := 10) (oi := { dst := some 4, op := Op.assign (Operand.tmp 13), type := 3, pos := "loop.go:213", after := #[{ on := 8, ground := Ground.data }, { on := 9, ground := Ground.chain }, { on := 0, ground := Ground.phase }, { on := 1, ground := Ground.phase }, { on := 2, ground := Ground.phase }, { on := 3, ground := Ground.phase }, { on := 4, ground := Ground.phase }, { on := 5, ground := Ground.phase }, { on := 6, ground := Ground.phase }, { on := 7, ground := Ground.phase }, { on := 8, ground := Ground.phase }, { on := 9, ground := Ground.phase }], guard := none }) (v := ?_) rfl (by kernel_rfl) (by kernel_rfl) (by kernel_rfl) (fun _ _ _ h => h) (Or.inl ⟨by rfl, ?_⟩) (by assumption) ?_
  rotate_left
  · (intro w hSw; (try dsimp only at hSw); go_simp); (try with_reducible rfl)
  try simp only [Act.put, List.setIfInBounds_toArray, List.set_cons_zero, List.set_cons_succ]
  refine wpAnyH_done (by kernel_rfl) ?_ _
  clear hHeld0
  clear a0 a1 a2 a3 a4 c0 c1 hp
  go_wp2
  all_goals
    go_ret
    refine ⟨ret_bool ?_, (Below.refl _ _).drew⟩
    unfold absW
    congr 1
    apply propext
    omega


/-- the row after a row. -/
def nextAt (l : List Int) (i : Nat) : Int := wrap64 (wrap64 (l[l.length - 1]?.getD 0 * l[i + 1]?.getD 0) - wrap64 (l[0]?.getD 0 * l[l.length - 2 - i]?.getD 0))
def nextL (l : List Int) : List Int := upto (nextAt l) (l.length - 1)

set_option maxRecDepth 100000 in
set_option maxHeartbeats 1000000 in
theorem next_any (v : Value) (l : List Int) (w : World) (hp : Ints w v l) (hl : l.length ≤ 1000000000) (h0 : 0 < l.length) :
    Calls Tryz.prog 124 #[v] w fun e W' => (∃ u, e = .returned u ∧ OwnI 3 w.heap.size W' u (nextL l)) ∧ Below w.heap.size w W' := by
  obtain ⟨b, o, cap, rfl, hc⟩ := hp.head h0
  have hmk := run_make_row' (P := Tryz.prog) 126 3 (.int .i64 0) 8 Tryz.underlying126 Tryz.infoInt rfl .i64 .i64 (l.length - 1) (by omega) (by omega)
  rw [ia_made] at hmk
  rw [show ((l.length - 1 : Nat) : Int) = (l.length : Int) - 1 from by omega] at hmk
  have a1 : IntKind.i64.wrap ((l.length : Int) - 1) = (l.length : Int) - 1 := IntWalk.i64_in _ (by omega)
  go_enter Tryz.func124, Tryz.ntmps124
  go_wp2_with fail
  clear hmk
  have hB0 := below_new w (.cells (ia (List.replicate (l.length - 1) 0)) 3)
  have hC0 := BlkI.new w 3 (List.replicate (l.length - 1) 0)
  obtain ⟨W, hW⟩ : ∃ W, W = w.alloc (.cells (ia (List.replicate (l.length - 1) 0)) 3) := ⟨_, rfl⟩
  rw [← hW] at hB0 hC0 ⊢
  clear hW
  go_loopw [13] (fun i wr => ∃ k : Nat, k ≤ l.length - 1 ∧ i = .int .i64 k ∧ Below w.heap.size w wr ∧ BlkI wr w.heap.size 3 (upto (nextAt l) k ++ List.replicate (l.length - 1 - k) 0)) (fun i _ => l.length - (intOf i).toNat)
  case atStart => exact ⟨0, by omega, rfl, hB0, by simpa [upto] using hC0⟩
  case round =>
    obtain ⟨k, hk, rfl, hbr, hcr⟩ := hrel
    by_cases hlt : k < l.length - 1
    · have cA := hc (l.length - 1) (by omega)
      have cB := hc (k + 1) (by omega)
      have cC := hc 0 (by omega)
      have cD := hc (l.length - 2 - k) (by omega)
      rw [Nat.add_zero] at cC
      have hX : nextAt l k = wrap64 (wrap64 (l[l.length - 1]?.getD 0 * l[k + 1]?.getD 0) - wrap64 (l[0]?.getD 0 * l[l.length - 2 - k]?.getD 0)) := rfl
      have hset : ∀ x, x = nextAt l k → (upto (nextAt l) k ++ List.replicate (l.length - 1 - k) 0).set k x = upto (nextAt l) (k + 1) ++ List.replicate (l.length - 1 - (k + 1)) 0 := fun x hx => by
        subst hx
        rw [List.set_append_right _ _ (by rw [upto_length]; exact Nat.le_refl _), upto_length, Nat.sub_self, show l.length - 1 - k = (l.length - 1 - (k + 1)) + 1 from by omega, List.replicate_succ, List.set_cons_zero, upto_succ]
        simp
      have hlenL : (upto (nextAt l) k ++ List.replicate (l.length - 1 - k) 0).length = l.length - 1 := by simp [upto_length]; omega
      generalize upto (nextAt l) k ++ List.replicate (l.length - 1 - k) 0 = L at hcr hset hlenL
      rw [hX] at hset
      generalize l[l.length - 1]?.getD 0 = A at cA hset
      generalize l[k + 1]?.getD 0 = B at cB hset
      generalize l[0]?.getD 0 = C at cC hset
      generalize l[l.length - 2 - k]?.getD 0 = D at cD hset
      have HS := Lib.hid hset
      clear hset hX
      have e1 : IntKind.i64.wrap ((k : Int) + 1) = (k : Int) + 1 := IntWalk.i64_in _ (by omega)
      have e2 : IntKind.i64.wrap ((l.length : Int) - 1 - 1) = (l.length : Int) - 1 - 1 := IntWalk.i64_in _ (by omega)
      have e3 : IntKind.i64.wrap ((l.length : Int) - 1 - 1 - (k : Int)) = (l.length : Int) - 1 - 1 - (k : Int) := IntWalk.i64_in _ (by omega)
      have g1 : (1 : Int) ≤ (l.length : Int) := by omega
      have g2 : (l.length : Int) - 1 < (l.length : Int) := by omega
      have g3 : (0 : Int) ≤ (k : Int) + 1 := by omega
      have g4 : (k : Int) + 1 < (l.length : Int) := by omega
      have g5 : (k : Int) ≤ (l.length : Int) - 1 - 1 := by omega
      have g6 : (l.length : Int) - 1 - 1 - (k : Int) < (l.length : Int) := by omega
      have g7 : (k : Int) < (l.length : Int) - 1 := by omega
      have t1 : ((l.length : Int) - 1).toNat = l.length - 1 := by omega
      have t2 : ((k : Int) + 1).toNat = k + 1 := by omega
      have t3 : ((l.length : Int) - 1 - 1 - (k : Int)).toNat = l.length - 2 - k := by omega
      go_wp2_with fail
      refine wp_region_held_drew (S := (fun w' => w'.cell? ⟨b, o + (l.length - 1), none⟩ = some (.int .i64 A) ∧ w'.cell? ⟨b, o + (k + 1), none⟩ = some (.int .i64 B) ∧ w'.cell? ⟨b, o, none⟩ = some (.int .i64 C) ∧ w'.cell? ⟨b, o + (l.length - 2 - k), none⟩ = some (.int .i64 D))) (by kernel_rfl) ⟨cellb cA hbr.drew, cellb cB hbr.drew, cellb cC hbr.drew, cellb cD hbr.drew⟩ (fun hHeld0 => ?_)
      obtain ⟨wzd, hwz⟩ : ∃ v, v = wr.drew := ⟨_, rfl⟩
      rw [← hwz] at hHeld0 ⊢
      have hbzd : Below w.heap.size w wzd := by rw [hwz]; exact hbr.drew
      have hlzd : Below wr.heap.size wr wzd := by rw [hwz]; exact (Below.refl _ _).drew
      have hcr := hcr.carry hlzd
      clear hwz hlzd
      refine wpAnyH_take (i := 0) (oi := { dst := some 16, op := Op.move (Operand.tmp 4), type := 126, pos := "loop.go:222", after := #[], guard := none }) (v := ?_) rfl (by kernel_rfl) (by kernel_rfl) (by kernel_rfl) (fun _ _ _ h => h) (Or.inl ⟨by rfl, ?_⟩) (by assumption) ?_
      rotate_left
      · (intro w hSw; (try dsimp only at hSw); go_simp); (try with_reducible rfl)
      try simp only [Act.put, List.setIfInBounds_toArray, List.set_cons_zero, List.set_cons_succ]
      refine wpAnyH_take (i := 1) (oi := { dst := some 17, op := Op.move (Operand.tmp 5), type := 3, pos := "loop.go:222", after := #[], guard := none }) (v := ?_) rfl (by kernel_rfl) (by kernel_rfl) (by kernel_rfl) (fun _ _ _ h => h) (Or.inl ⟨by rfl, ?_⟩) (by assumption) ?_
      rotate_left
      · (intro w hSw; (try dsimp only at hSw); go_simp); (try with_reducible rfl)
      try simp only [Act.put, List.setIfInBounds_toArray, List.set_cons_zero, List.set_cons_succ]
      refine wpAnyH_take (i := 2) (oi := { dst := some 18, op := Op.move (Operand.tmp 0), type := 126, pos := "loop.go:222", after := #[], guard := none }) (v := ?_) rfl (by kernel_rfl) (by kernel_rfl) (by kernel_rfl) (fun _ _ _ h => h) (Or.inl ⟨by rfl, ?_⟩) (by assumption) ?_
      rotate_left
      · (intro w hSw; (try dsimp only at hSw); go_simp); (try with_reducible rfl)
      try simp only [Act.put, List.setIfInBounds_toArray, List.set_cons_zero, List.set_cons_succ]
      refine wpAnyH_take (i := 3) (oi := { dst := some 19, op := Op.move (Operand.tmp 3), type := 3, pos := "loop.go:222", after := #[], guard := none }) (v := ?_) rfl (by kernel_rfl) (by kernel_rfl) (by kernel_rfl) (fun _ _ _ h => h) (Or.inl ⟨by rfl, ?_⟩) (by assumption) ?_
      rotate_left
      · (intro w hSw; (try dsimp only at hSw); go_simp); (try with_reducible rfl)
      try simp only [Act.put, List.setIfInBounds_toArray, List.set_cons_zero, List.set_cons_succ]
      refine wpAnyH_take (i := 4) (oi := { dst := some 20, op := Op.indexAddr 126 (Operand.tmp 18) (Operand.tmp 19), type := 0, pos := "loop.go:222", after := #[{ on := 2, ground := Ground.data }, { on := 3, ground := Ground.data }], guard := none }) (v := ?_) rfl (by kernel_rfl) (by kernel_rfl) (by kernel_rfl) (fun _ _ _ h => h) (Or.inl ⟨by rfl, ?_⟩) (by assumption) ?_
      rotate_left
      · (intro w hSw; (try dsimp only at hSw); go_simp); (try with_reducible rfl)
      try simp only [Act.put, List.setIfInBounds_toArray, List.set_cons_zero, List.set_cons_succ]
      refine wpAnyH_take (i := 5) (oi := { dst := some 21, op := Op.load 3 (Operand.tmp 20), type := 3, pos := "loop.go:222", after := #[{ on := 4, ground := Ground.data }], guard := none }) (v := ?_) rfl (by kernel_rfl) (by kernel_rfl) (by kernel_rfl) (fun _ _ _ h => h) (Or.inl ⟨by rfl, ?_⟩) (by assumption) ?_
      rotate_left
      · (intro w hSw; (try dsimp only at hSw); go_simp); (try with_reducible rfl)
      try simp only [Act.put, List.setIfInBounds_toArray, List.set_cons_zero, List.set_cons_succ]
      refine wpAnyH_take (i := 6) (oi := { dst := some 22, op := Op.move (Operand.tmp 0), type := 126, pos := "loop.go:222", after := #[], guard := none }) (v := ?_) rfl (by kernel_rfl) (by kernel_rfl) (by kernel_rfl) (fun _ _ _ h => h) (Or.inl ⟨by rfl, ?_⟩) (by assumption) ?_
      rotate_left
      · (intro w hSw; (try dsimp only at hSw); go_simp); (try with_reducible rfl)
      try simp only [Act.put, List.setIfInBounds_toArray, List.set_cons_zero, List.set_cons_succ]
      refine wpAnyH_take (i := 7) (oi := { dst := some 23, op := Op.move (Operand.tmp 5), type := 3, pos := "loop.go:222", after := #[], guard := none }) (v := ?_) rfl (by kernel_rfl) (by kernel_rfl) (by kernel_rfl) (fun _ _ _ h => h) (Or.inl ⟨by rfl, ?_⟩) (by assumption) ?_
      rotate_left
      · (intro w hSw; (try dsimp only at hSw); go_simp); (try with_reducible rfl)
      try simp only [Act.put, List.setIfInBounds_toArray, List.set_cons_zero, List.set_cons_succ]
      refine wpAnyH_take (i := 8) (oi := { dst := some 24, op := Op.binOp BinOp.add 3 (Operand.tmp 23) (Operand.const (Value.int IntKind.i64 1)) 3, type := 3, pos := "loop.go:222", after := #[{ on := 7, ground := Ground.data }], guard := none }) (v := ?_) rfl (by kernel_rfl) (by kernel_rfl) (by kernel_rfl) (fun _ _ _ h => h) (Or.inl ⟨by rfl, ?_⟩) (by assumption) ?_
      rotate_left
      · (intro w hSw; (try dsimp only at hSw); go_simp); (try with_reducible rfl)
      try simp only [Act.put, List.setIfInBounds_toArray, List.set_cons_zero, List.set_cons_succ]
      refine wpAnyH_take (i := 9) (oi := { dst := some 25, op := Op.indexAddr 126 (Operand.tmp 22) (Operand.tmp 24), type := 0, pos := "loop.go:222", after := #[{ on := 6, ground := Ground.data }, { on := 8, ground := Ground.data }], guard := none }) (v := ?_) rfl (by kernel_rfl) (by kernel_rfl) (by kernel_rfl) (fun _ _ _ h => h) (Or.inl ⟨by rfl, ?_⟩) (by assumption) ?_
      rotate_left
      · (intro w hSw; (try dsimp only at hSw); go_simp); (try with_reducible rfl)
      try simp only [Act.put, List.setIfInBounds_toArray, List.set_cons_zero, List.set_cons_succ]
      refine wpAnyH_take (i := 10) (oi := { dst := some 26, op := Op.load 3 (Operand.tmp 25), type := 3, pos := "loop.go:222", after := #[{ on := 9, ground := Ground.data }], guard := none }) (v := ?_) rfl (by kernel_rfl) (by kernel_rfl) (by kernel_rfl) (fun _ _ _ h => h) (Or.inl ⟨by rfl, ?_⟩) (by assumption) ?_
      rotate_left
      · (intro w hSw; (try dsimp only at hSw); go_simp); (try with_reducible rfl)
      try simp only [Act.put, List.setIfInBounds_toArray, List.set_cons_zero, List.set_cons_succ]
      refine wpAnyH_take (i := 11) (oi := { dst := some 27, op := Op.binOp BinOp.mul 3 (Operand.tmp 21) (Operand.tmp 26) 3, type := 3, pos := "loop.go:222", after := #[{ on := 5, ground := Ground.data }, { on := 10, ground := Ground.data }], guard := none }) (v := ?_) rfl (by kernel_rfl) (by kernel_rfl) (by kernel_rfl) (fun _ _ _ h => h) (Or.inl ⟨by rfl, ?_⟩) (by assumption) ?_
      rotate_left
      · (intro w hSw; (try dsimp only at hSw); go_simp); (try with_reducible rfl)
      try simp only [Act.put, List.setIfInBounds_toArray, List.set_cons_zero, List.set_cons_succ]
      refine wpAnyH_take (i := 12) (oi := { dst := some 28, op := Op.move (Operand.tmp 0), type := 126, pos := "loop.go:222", after := #[], guard := none }) (v := ?_) rfl (by kernel_rfl) (by kernel_rfl) (by kernel_rfl) (fun _ _ _ h => h) (Or.inl ⟨by rfl, ?_⟩) (by assumption) ?_
      rotate_left
      · (intro w hSw; (try dsimp only at hSw); go_simp); (try with_reducible rfl)
      try simp only [Act.put, List.setIfInBounds_toArray, List.set_cons_zero, List.set_cons_succ]
      refine wpAnyH_take (i := 13) (oi := { dst := some 29, op := Op.indexAddr 126 (Operand.tmp 28) (Operand.const (Value.int IntKind.i64 0)), type := 0, pos := "loop.go:222", after := #[{ on := 12, ground := Ground.data }], guard := none }) (v := ?_) rfl (by kernel_rfl) (by kernel_rfl) (by kernel_rfl) (fun _ _ _ h => h) (Or.inl ⟨by rfl, ?_⟩) (by assumption) ?_
      rotate_left
      · (intro w hSw; (try dsimp only at hSw); go_simp); (try with_reducible rfl)
      try simp only [Act.put, List.setIfInBounds_toArray, List.set_cons_zero, List.set_cons_succ]
      refine wpAnyH_take (i := 14) (oi := { dst := some 30, op := Op.load 3 (Operand.tmp 29), type := 3, pos := "loop.go:222", after := #[{ on := 13, ground := Ground.data }], guard := none }) (v := ?_) rfl (by kernel_rfl) (by kernel_rfl) (by kernel_rfl) (fun _ _ _ h => h) (Or.inl ⟨by rfl, ?_⟩) (by assumption) ?_
      rotate_left
      · (intro w hSw; (try dsimp only at hSw); go_simp); (try with_reducible rfl)
      try simp only [Act.put, List.setIfInBounds_toArray, List.set_cons_zero, List.set_cons_succ]
      refine wpAnyH_take (i := 15) (oi := { dst := some 31, op := Op.move (Operand.tmp 0), type := 126, pos := "loop.go:222", after := #[], guard := none }) (v := ?_) rfl (by kernel_rfl) (by kernel_rfl) (by kernel_rfl) (fun _ _ _ h => h) (Or.inl ⟨by rfl, ?_⟩) (by assumption) ?_
      rotate_left
      · (intro w hSw; (try dsimp only at hSw); go_simp); (try with_reducible rfl)
      try simp only [Act.put, List.setIfInBounds_toArray, List.set_cons_zero, List.set_cons_succ]
      refine wpAnyH_take (i := 16) (oi := { dst := some 32, op := Op.move (Operand.tmp 3), type := 3, pos := "loop.go:222", after := #[], guard := none }) (v := ?_) rfl (by kernel_rfl) (by kernel_rfl) (by kernel_rfl) (fun _ _ _ h => h) (Or.inl ⟨by rfl, ?_⟩) (by assumption) ?_
      rotate_left
      · (intro w hSw; (try dsimp only at hSw); go_simp); (try with_reducible rfl)
      try simp only [Act.put, List.setIfInBounds_toArray, List.set_cons_zero, List.set_cons_succ]
      refine wpAnyH_take (i := 17) (oi := { dst := some 33, op := Op.binOp BinOp.sub 3 (Operand.tmp 32) (Operand.const (Value.int IntKind.i64 1)) 3, type := 3, pos := "loop.go:222", after := #[{ on := 16, ground := Ground.data }], guard := none }) (v := ?_) rfl (by kernel_rfl) (by kernel_rfl) (by kernel_rfl) (fun _ _ _ h => h) (Or.inl ⟨by rfl, ?_⟩) (by assumption) ?_
      rotate_left
      · (intro w hSw; (try dsimp only at hSw); go_simp); (try with_reducible rfl)
      try simp only [Act.put, List.setIfInBounds_toArray, List.set_cons_zero, List.set_cons_succ]
      refine wpAnyH_take (i := 18) (oi := { dst := some 34, op := Op.move (Operand.tmp 5), type := 3, pos := "loop.go:222", after := #[], guard := none }) (v := ?_) rfl (by kernel_rfl) (by kernel_rfl) (by kernel_rfl) (fun _ _ _ h => h) (Or.inl ⟨by rfl, ?_⟩) (by assumption) ?_
      rotate_left
      · (intro w hSw; (try dsimp only at hSw); go_simp); (try with_reducible rfl)
      try simp only [Act.put, List.setIfInBounds_toArray, List.set_cons_zero, List.set_cons_succ]
      refine wpAnyH_take (i := 19) (oi := { dst := some 35, op := Op.binOp BinOp.sub 3 (Operand.tmp 33) (Operand.tmp 34) 3, type := 3, pos := "loop.go:222", after := #[{ on := 17, ground := Ground.data }, { on := 18, ground := Ground.data }], guard := none }) (v := ?_) rfl (by kernel_rfl) (by kernel_rfl) (by kernel_rfl) (fun _ _ _ h => h) (Or.inl ⟨by rfl, ?_⟩) (by assumption) ?_
      rotate_left
      · (intro w hSw; (try dsimp only at hSw); go_simp); (try with_reducible rfl)
      try simp only [Act.put, List.setIfInBounds_toArray, List.set_cons_zero, List.set_cons_succ]
      refine wpAnyH_take (i := 20) (oi := { dst := some 36, op := Op.indexAddr 126 (Operand.tmp 31) (Operand.tmp 35), type := 0, pos := "loop.go:222", after := #[{ on := 15, ground := Ground.data }, { on := 19, ground := Ground.data }], guard := none }) (v := ?_) rfl (by kernel_rfl) (by kernel_rfl) (by kernel_rfl) (fun _ _ _ h => h) (Or.inl ⟨by rfl, ?_⟩) (by assumption) ?_
      rotate_left
      · (intro w hSw; (try dsimp only at hSw); go_simp); (try with_reducible rfl)
      try simp only [Act.put, List.setIfInBounds_toArray, List.set_cons_zero, List.set_cons_succ]
      refine wpAnyH_take (i := 21) (oi := { dst := some 37, op := Op.load 3 (Operand.tmp 36), type := 3, pos := "loop.go:222", after := #[{ on := 20, ground := Ground.data }], guard := none }) (v := ?_) rfl (by kernel_rfl) (by kernel_rfl) (by kernel_rfl) (fun _ _ _ h => h) (Or.inl ⟨by rfl, ?_⟩) (by assumption) ?_
      rotate_left
      · (intro w hSw; (try dsimp only at hSw); go_simp); (try with_reducible rfl)
      try simp only [Act.put, List.setIfInBounds_toArray, List.set_cons_zero, List.set_cons_succ]
      refine wpAnyH_take (i := 22) (oi := { dst := some 38, op := Op.binOp BinOp.mul 3 (Operand.tmp 30) (Operand.tmp 37) 3, type := 3, pos := "loop.go:222", after := #[{ on := 14, ground := Ground.data }, { on := 21, ground := Ground.data }], guard := none }) (v := ?_) rfl (by kernel_rfl) (by kernel_rfl) (by kernel_rfl) (fun _ _ _ h => h) (Or.inl ⟨by rfl, ?_⟩) (by assumption) ?_
      rotate_left
      · (intro w hSw; (try dsimp only at hSw); go_simp); (try with_reducible rfl)
      try simp only [Act.put, List.setIfInBounds_toArray, List.set_cons_zero, List.set_cons_succ]
      refine wpAnyH_take (i := 23) (oi := { dst := some 39, op := Op.binOp BinOp.sub 3 (Operand.tmp 27) (Operand.tmp 38) 3, type := 3, pos := "loop.go:222", after := #[{ on := 11, ground := Ground.data }, { on := 22, ground := Ground.data }], guard := none }) (v := ?_) rfl (by kernel_rfl) (by kernel_rfl) (by kernel_rfl) (fun _ _ _ h => h) (Or.inl ⟨by rfl, ?_⟩) (by assumption) ?_
      rotate_left
      · (intro w hSw; (try dsimp only at hSw); go_simp); (try with_reducible rfl)
      try simp only [Act.put, List.setIfInBounds_toArray, List.set_cons_zero, List.set_cons_succ]
      refine wpAnyH_take (i := 24) (oi := { dst := some 40, op := Op.indexAddr 126 (Operand.tmp 16) (Operand.tmp 17), type := 0, pos := "loop.go:222", after := #[{ on := 0, ground := Ground.data }, { on := 1, ground := Ground.data }, { on := 0, ground := Ground.phase }, { on := 1, ground := Ground.phase }, { on := 2, ground := Ground.phase }, { on := 3, ground := Ground.phase }, { on := 4, ground := Ground.phase }, { on := 5, ground := Ground.phase }, { on := 6, ground := Ground.phase }, { on := 7, ground := Ground.phase }, { on := 8, ground := Ground.phase }, { on := 9, ground := Ground.phase }, { on := 10, ground := Ground.phase }, { on := 11, ground := Ground.phase }, { on := 12, ground := Ground.phase }, { on := 13, ground := Ground.phase }, { on := 14, ground := Ground.phase }, { on := 15, ground := Ground.phase }, { on := 16, ground := Ground.phase }, { on := 17, ground := Ground.phase }, { on := 18, ground := Ground.phase }, { on := 19, ground := Ground.phase }, { on := 20, ground := Ground.phase }, { on := 21, ground := Ground.phase }, { on := 22, ground := Ground.phase }, { on := 23, ground := Ground.phase }], guard := none }) (v := ?_) rfl (by kernel_rfl) (by kernel_rfl) (by kernel_rfl) (fun _ _ _ h => h) (Or.inl ⟨by rfl, ?_⟩) (by assumption) ?_
      rotate_left
      · (intro w hSw; (try dsimp only at hSw); go_simp); (try with_reducible rfl)
      try simp only [Act.put, List.setIfInBounds_toArray, List.set_cons_zero, List.set_cons_succ]
      refine wpAnyH_ready (rs := [25]) (by kernel_rfl) (by simp) ?_
      refine (AllReadyH.cons (o := { dst := none, op := Op.store 3 (Operand.tmp 40) (Operand.tmp 39), type := 0, pos := "loop.go:222", after := #[{ on := 24, ground := Ground.data }, { on := 23, ground := Ground.data }, { on := 0, ground := Ground.phase }, { on := 1, ground := Ground.phase }, { on := 2, ground := Ground.phase }, { on := 3, ground := Ground.phase }, { on := 4, ground := Ground.phase }, { on := 5, ground := Ground.phase }, { on := 6, ground := Ground.phase }, { on := 7, ground := Ground.phase }, { on := 8, ground := Ground.phase }, { on := 9, ground := Ground.phase }, { on := 10, ground := Ground.phase }, { on := 11, ground := Ground.phase }, { on := 12, ground := Ground.phase }, { on := 13, ground := Ground.phase }, { on := 14, ground := Ground.phase }, { on := 15, ground := Ground.phase }, { on := 16, ground := Ground.phase }, { on := 17, ground := Ground.phase }, { on := 18, ground := Ground.phase }, { on := 19, ground := Ground.phase }, { on := 20, ground := Ground.phase }, { on := 21, ground := Ground.phase }, { on := 22, ground := Ground.phase }, { on := 23, ground := Ground.phase }], guard := none }) rfl (fun K hK => ?_) AllReadyH.nil)
      have hcc := BlkI.cell hcr (j := k) (by omega)
      have hcf := Blk.frozen hcr k
      go_simp
      obtain ⟨wz25, hwz⟩ : ∃ v, v = wzd.setCell ⟨w.heap.size, k, none⟩ (.int .i64 (IntKind.i64.wrap (IntKind.i64.wrap (A * B) - IntKind.i64.wrap (C * D)))) := ⟨_, rfl⟩
      rw [← hwz]
      have hbz25 : Below w.heap.size w wz25 := by rw [hwz]; exact hbzd.setCell (by exact Nat.le_refl _) _
      have hcn := BlkI.set hcr k (IntKind.i64.wrap (IntKind.i64.wrap (A * B) - IntKind.i64.wrap (C * D)))
      rw [HS.out (IntKind.i64.wrap (IntKind.i64.wrap (A * B) - IntKind.i64.wrap (C * D))) (by simp only [wrapEq]), ← hwz] at hcn
      clear hwz
      refine hK.out _ _ ⟨cellb cA hbz25, cellb cB hbz25, cellb cC hbz25, cellb cD hbz25⟩ (fun hHeld1 => ?_)
      clear hK K hHeld0
      try simp only [Act.put, List.setIfInBounds_toArray, List.set_cons_zero, List.set_cons_succ]
      refine wpAnyH_done (by kernel_rfl) ?_ _
      clear hHeld1
      go_wp2
      go_roundw
      · exact ⟨k + 1, by omega, by go_num, hbz25, hcn⟩
      · simp [intOf]; omega
    · obtain rfl : k = l.length - 1 := by omega
      rw [Nat.sub_self, List.replicate_zero, List.append_nil] at hcr
      go_wp2
      go_ret
      exact ⟨⟨_, rfl, BlkI.own hcr _ (Nat.le_refl _) (upto_length _ _).symm (by rw [upto_length]; unfold maxLen; omega)⟩, hbr⟩

section
attribute [local go_sem] Oper.semAt_some

set_option maxHeartbeats 1000000 in
theorem Clone_any (v : Value) (l : List Int) (w : World) (hv : Ints w v l) (hl : l.length ≤ 1000000000) :
    Calls Tryz.prog 44 #[v] w fun e w' => (∃ u, e = .returned u ∧ OwnI 3 w.heap.size w' u l) ∧ Below w.heap.size w w' := by
  obtain ⟨i0, hi, hz0, hz1, hz2⟩ := info_parts Tryz.infoInt
  rcases Nat.eq_zero_or_pos l.length with h0 | h0
  · obtain rfl : l = [] := List.length_eq_zero_iff.1 h0
    obtain ⟨a, cap, rfl, _, _⟩ := hv
    cases a with
    | none =>
      have hnil : ∀ W, (binOp .eql 30 (.slice none 0 cap) (.slice none 0 0)).run Tryz.prog W = .ok (.bool true) W := fun W => Lib.run_eql_slice_nil W _ _ _ _ _ _ _ Tryz.underlying30
      go_enter Tryz.func44, Tryz.ntmps44
      go_wp2
      go_ret
      exact ⟨⟨_, rfl, ⟨rfl, .inl ⟨rfl, rfl⟩⟩⟩, Below.refl _ _⟩
    | some a =>
      have hnil : ∀ W, (binOp .eql 30 (.slice (some a) 0 cap) (.slice none 0 0)).run Tryz.prog W = .ok (.bool false) W := fun W => Lib.run_eql_slice_nil W _ _ _ _ _ _ _ Tryz.underlying30
      have happ := fun (W : World) (ty : TypeId) (g : Nat) => run_append_empty (P := Tryz.prog) W 30 30 ty 3 3 i0 _ Tryz.underlying30 Tryz.underlying30 hi hz0 g 0 (some a) cap
      go_enter Tryz.func44, Tryz.ntmps44
      go_wp2
      go_ret
      exact ⟨⟨_, rfl, ⟨rfl, .inr ⟨w.heap.size, 0, #[], rfl, Nat.le_refl _, World.alloc_heap_new w _, Nat.le_refl _, by simp, rfl, rfl⟩⟩⟩, below_new _ _⟩
  · obtain ⟨b, o, cap, rfl, _⟩ := (id hv).head h0
    have hnil : ∀ W, (binOp .eql 30 (.slice (some ⟨b, o, none⟩) l.length cap) (.slice none 0 0)).run Tryz.prog W = .ok (.bool false) W := fun W => Lib.run_eql_slice_nil W _ _ _ _ _ _ _ Tryz.underlying30
    go_enter Tryz.func44, Tryz.ntmps44
    go_wp2_with (at_builtin; refine wpList_append_freshO rfl (.tmp 5) (.tmp 6) 30 30 3 rfl i0 (.int .i64 0) 1 8 Tryz.underlying30 hi hz0 hz1 hz2 rfl w.heap.size 0 rfl _ l.length _ rfl ((hv.alloc _).src Tryz.underlying30 h0) h0 (by unfold maxLen; omega) (by omega) ?_; intro u w2 hown hb)
    have hown' : OwnI 3 w.heap.size w2 u l := OwnI.base hown (by simp)
    have hb' := bthen (below_new w (.cells #[] 3)) hb
    clear hown hb hnil
    go_ret
    exact ⟨⟨_, rfl, hown'⟩, hb'⟩

/-- the k-th row. -/
def rowK (p : List Int) : Nat → List Int
  | 0 => p
  | k + 1 => nextL (rowK p k)
theorem rowK_length (p : List Int) (k : Nat) : (rowK p k).length = p.length - k := by
  induction k with
  | zero => rfl
  | succ k ih => rw [rowK, nextL, upto_length, ih]; omega
/-- the rows from one on. -/
def tableL : Nat → List Int → List (List Int)
  | 0, _ => []
  | f + 1, r => if r.length ≤ 1 then [] else if failsB r then [r] else r :: tableL f (nextL r)
def tableW (p : List Int) : List (List Int) := tableL p.length p
theorem tableL_stop (f : Nat) (r : List Int) (h : r.length ≤ 1) : tableL f r = [] := by
  cases f with
  | zero => rfl
  | succ f => rw [tableL, if_pos h]
theorem tableL_upto (p : List Int) (k : Nat) (h : ∀ j, j < k → failsB (rowK p j) = false) (hk : k < p.length) : tableW p = upto (rowK p) k ++ tableL (p.length - k) (rowK p k) := by
  induction k with
  | zero => simp [upto, tableW, rowK]
  | succ k ih =>
    rw [ih (fun j hj => h j (by omega)) (by omega), upto_succ, show p.length - k = (p.length - (k + 1)) + 1 from by omega, tableL, if_neg (by rw [rowK_length]; omega), h k (by omega)]
    simp [rowK]
theorem table_done (p : List Int) (k : Nat) (h : ∀ j, j < k → failsB (rowK p j) = false) (hk : k ≤ p.length) (hs : (rowK p k).length ≤ 1) : tableW p = upto (rowK p) k := by
  rcases Nat.lt_or_ge k p.length with hlt | hge
  · rw [tableL_upto p k h hlt, tableL_stop _ _ hs, List.append_nil]
  · cases k with
    | zero => rw [tableW, tableL_stop _ _ (by omega)]; rfl
    | succ k =>
      rw [tableL_upto p k (fun j hj => h j (by omega)) (by omega), tableL_stop _ _ (by rw [rowK_length]; omega), List.append_nil]
      rcases Nat.eq_zero_or_pos p.length with h0 | h0
      · omega
      · exfalso
        have := h k (by omega)
        have hl := rowK_length p k
        rw [show p.length - k = 1 from by omega] at hl
        match hq : rowK p k, hl with
        | [x], _ => rw [hq] at this; simp [failsB] at this
theorem table_fails (p : List Int) (k : Nat) (h : ∀ j, j < k → failsB (rowK p j) = false) (hk : 1 < (rowK p k).length) (hf : failsB (rowK p k) = true) : tableW p = upto (rowK p) (k + 1) := by
  have hl := rowK_length p k
  rw [tableL_upto p k h (by omega), show p.length - k = (p.length - k - 1) + 1 from by omega, tableL, if_neg (by omega), if_pos hf, upto_succ]

/-- the blocks of integers are kept. -/
def KInt (A B : World) : Prop := ∀ (b : Nat) (c : Array Value), A.heap[b]? = some (.cells c 3 (0, 0)) → B.heap[b]? = some (.cells c 3 (0, 0))
theorem KInt.trans {A B C : World} (h : KInt A B) (k : KInt B C) : KInt A C := fun b c hc => k b c (h b c hc)
theorem KInt.turn (W : World) (l : Nat) (o o' : Obj) (h : W.heap[l]? = some o) (h1 : o.isCells = false) : KInt W (W.putObj l o') := fun b c hc => by
  by_cases e : b = l
  · subst e; rw [hc] at h; cases h; cases h1
  · exact (World.putObj_heap_other e).trans hc
theorem OwnI.kint {base : Nat} {A B : World} {v : Value} {l : List Int} (h : OwnI 3 base A v l) (k : KInt A B) : OwnI 3 base B v l := by
  obtain ⟨h1, h2⟩ := h
  refine ⟨h1, ?_⟩
  rcases h2 with h2 | ⟨g, cap, cur, hv, hg, hh, r⟩
  · exact .inl h2
  · exact .inr ⟨g, cap, cur, hv, hg, k _ _ hh, r⟩
theorem grown_of_below {A B : World} (h : Below A.heap.size A B) : A.grownBy B none := ⟨h.os, h.tape, h.output, h.size, fun k hk _ => h.block k hk⟩

set_option maxRecDepth 100000 in
set_option maxHeartbeats 2000000 in
theorem rows1_in (n : Nat) (hn : 1 ≤ n) (l Bs : Nat) (v : Value) (p : List Int) (hl : p.length ≤ 1000000000) (J Jx : List (Value × List Int) → World → Prop)
    (hJ : ∀ pre A B, J pre A → A.grownBy B none → J pre B)
    (hY : ∀ pre x W, J pre W → (OwnI 3 0 W x.1 x.2 ∧ pre.length < p.length) → YieldAt Fence.wide (n - 1) Tryz.prog l #[x.1] W fun e W' =>
      (e = .returned (.bool true) ∧ J (pre ++ [x]) W' ∧ KInt W W') ∨ (e = .returned (.bool false) ∧ Jx (pre ++ [x]) W'))
    (W : World) (hBs : W.cell? ⟨Bs, 0, none⟩ = some v) (hv : Ints W v p) (h00 : J [] W) :
    CallsIn Fence.wide n Tryz.prog 123 #[.func (.yield l) #[] #[], .pointer (some ⟨Bs, 0, none⟩)] W fun e W' => (∃ v, e = .returned v) ∧
      ((∃ ys, ys.map Prod.snd = tableW p ∧ J ys W') ∨ (∃ pre, Jx pre W')) := by
  refine callsIn_of_wp Tryz.func123 rfl trivial ?_ rfl
  simp only [Tryz.ntmps123, List.size_toArray, List.length_cons, List.length_nil, Nat.reduceAdd, Nat.reduceSub, Array.replicate_succ, Array.replicate_zero, List.push_toArray, List.append_toArray, List.nil_append, List.cons_append]
  have hwf : ∀ f, Fence.wide.fn f := fun _ => trivial
  have hcl := (callsIn_wide (n := n - 1)).2 (Clone_any v p W hv hl)
  have HCL := Lib.hid hcl
  clear hcl
  gi_wp2_with (gi_at_call 44; refine HCL.out.mono ?_; rintro e w1 ⟨⟨u, rfl, hu⟩, hb⟩)
  have hl' : p.length ≤ 1000000000 := hl
  clear HCL hBs
  gi_loopw [3] (fun r wr => ∃ (k : Nat) (pre : List (Value × List Int)), k ≤ p.length ∧ pre.map Prod.snd = upto (rowK p) k ∧ J pre wr ∧ OwnI 3 0 wr r (rowK p k) ∧ (∀ j, j < k → failsB (rowK p j) = false))
    (fun r _ => match r with | .slice _ n _ => n | _ => 0)
  case atStart => exact ⟨0, [], Nat.zero_le _, rfl, hJ _ _ _ h00 (grown_of_below hb), hu.base (Nat.zero_le _), fun j hj => by omega⟩
  case round =>
    obtain ⟨k, pre, hk, hpre, hj, ho, hf⟩ := hrel
    have hlen := rowK_length p k
    obtain ⟨L, hL⟩ : ∃ L, L = rowK p k := ⟨_, rfl⟩
    rw [← hL] at ho hlen
    have HL := Lib.hid hL
    have HP := Lib.hid hpre
    have HF := Lib.hid hf
    clear hL hpre hf
    by_cases hlt : 1 < L.length
    · have hi := ho.ints
      obtain ⟨b, o, cap, rfl, hc⟩ := hi.head (by omega)
      obtain ⟨fn, tmps, assign, body, hy, hR⟩ := hY pre (_, L) wr hj ⟨ho, by have h1 := congrArg List.length HP.out; rw [List.length_map, upto_length] at h1; omega⟩
      have hlt' : (1 : Int) < (L.length : Int) := by omega
      clear hlen hc hY hu
      gi_wp2
      refine hR.mono ?_
      rintro e W3 (⟨rfl, hj3, hk3⟩ | ⟨rfl, hjx⟩)
      · have ho3 := ho.kint hk3
        have hfa := (callsIn_wide (n := n - 1)).2 (fails_any _ L W3 ho3.ints (by have := HL.out; have := rowK_length p k; rw [← HL.out] at this; omega) (by omega))
        have HFA := Lib.hid hfa
        clear hfa hR hy
        by_cases hfl : failsB L = true
        · rw [hfl] at HFA
          gi_wp2_with (gi_at_call 97; refine HFA.out.mono ?_; rintro e w4 ⟨rfl, hb4⟩)
          refine bodyPost_ret (results_none rfl _ _ _) rfl ?_
          refine ⟨⟨_, rfl⟩, .inl ⟨pre ++ [(_, L)], ?_, hJ _ _ _ hj3 (grown_of_below hb4)⟩⟩
          rw [List.map_append, HP.out, HL.out]
          have hlt := hlt
          rw [HL.out] at hlt hfl
          rw [table_fails p k HF.out hlt hfl, upto_succ]
          rfl
        · have hfl' : failsB L = false := by simpa using hfl
          clear hfl
          rw [hfl'] at HFA
          have hnx := fun (w4 : World) (hb4 : Below W3.heap.size W3 w4) => (callsIn_wide (n := n - 1)).2 (next_any _ L w4 (ho3.ints.below hb4) (by have := HL.out; have := rowK_length p k; rw [← HL.out] at this; omega) (by omega))
          have HNX := Lib.hid hnx
          clear hnx
          gi_wp2_with (first | (gi_at_call 97; refine HFA.out.mono ?_; rintro e w4 ⟨rfl, hb4⟩) | (gi_at_call 124; refine (HNX.out _ hb4).mono ?_; rintro e w5 ⟨⟨u5, rfl, hu5⟩, hb5⟩))
          go_roundw
          case rel =>
            refine ⟨k + 1, pre ++ [(_, L)], ?_, ?_, hJ _ _ _ hj3 (grown_of_below (bthen hb4 hb5)), ?_, ?_⟩
            · have := HL.out; have := rowK_length p k; rw [← HL.out] at this; omega
            · rw [List.map_append, HP.out, HL.out, upto_succ]; rfl
            · rw [rowK, ← HL.out]; exact hu5.base (Nat.zero_le _)
            · intro j hj4
              rcases Nat.lt_or_ge j k with h | h
              · exact HF.out j h
              · obtain rfl : j = k := by omega
                rw [← HL.out]; exact hfl'
          case measure =>
            obtain ⟨a5, c5, hv5, _⟩ := hu5.ints
            subst hv5
            rw [show (nextL L).length = L.length - 1 from upto_length _ _]
            show L.length - 1 < L.length
            omega
      · clear hR hy
        gi_wp2
        refine bodyPost_ret (results_none rfl _ _ _) rfl ?_
        exact ⟨⟨_, rfl⟩, .inr ⟨_, hjx⟩⟩
    · obtain ⟨a, cap, rfl, _⟩ := ho.ints
      have hlt' : ¬ (1 : Int) < (L.length : Int) := by omega
      clear hY hu hlen
      gi_wp2
      go_end0
      refine ⟨⟨_, rfl⟩, .inl ⟨pre, ?_, hj⟩⟩
      rw [HP.out]
      exact (table_done p k HF.out hk (by rw [← HL.out]; omega)).symm
end

open Go.RowKit

/-- the slice v has the cells us. -/
def Vals (w : World) (v : Value) (us : List Value) : Prop :=
  ∃ a cap, v = .slice a us.length cap ∧ us.length ≤ cap ∧ (0 < us.length → ∃ b off, a = some ⟨b, off, none⟩ ∧ ∀ j u, us[j]? = some u → w.cell? ⟨b, off + j, none⟩ = some u)

theorem Vals.carry {w w' : World} {v : Value} {us : List Value} (h : Vals w v us) (hb : Below w.heap.size w w') : Vals w' v us := by
  obtain ⟨a, cap, hv, hc, h⟩ := h
  refine ⟨a, cap, hv, hc, fun hl => ?_⟩
  obtain ⟨b, off, ha, h⟩ := h hl
  exact ⟨b, off, ha, fun j u hj => (hb.cell (p := ⟨b, off + j, none⟩) (lt_of_cellSome (h j u hj))).trans (h j u hj)⟩
theorem Vals.head {w : World} {v : Value} {us : List Value} (h : Vals w v us) (h0 : 0 < us.length) : ∃ b off cap, v = .slice (some ⟨b, off, none⟩) us.length cap ∧ ∀ j u, us[j]? = some u → w.cell? ⟨b, off + j, none⟩ = some u := by
  obtain ⟨a, cap, rfl, _, hc⟩ := h
  obtain ⟨b, off, rfl, hd⟩ := hc h0
  exact ⟨b, off, cap, rfl, hd⟩
theorem Vals.nil (w : World) : Vals w (.slice none 0 0) [] := ⟨none, 0, rfl, by simp, fun h => by simp at h⟩
theorem Vals.of_own {w : World} {base e : Nat} {v : Value} {us : List Value} (h : w.ownsRow base e 1 v us.length us) : Vals w v us := by
  obtain ⟨h1, h2⟩ := h
  rcases h2 with ⟨rfl, h2⟩ | ⟨g, cap, cur, rfl, hg, hh, hnc, hcap, hcs, htk⟩
  · exact ⟨none, 0, by rw [h2], by omega, fun h => by omega⟩
  · refine ⟨some ⟨g, 0, none⟩, cap, rfl, hnc, fun hl => ⟨g, 0, rfl, fun j u hj => ?_⟩⟩
    rw [Nat.mul_one] at htk
    rw [← htk, List.getElem?_take] at hj
    split at hj
    · rw [Array.getElem?_toList] at hj
      simp [World.cell?, hh, hj]
    · cases hj
theorem Vals.ints {w : World} {v : Value} {l : List Int} (h : Vals w v (l.map (Value.int .i64))) : Ints w v l := by
  obtain ⟨a, cap, hv, hc, h⟩ := h
  rw [List.length_map] at hv hc h
  exact ⟨a, cap, hv, hc, fun hl => by obtain ⟨b, off, ha, h⟩ := h hl; exact ⟨b, off, ha, fun j hj => h j _ (by simp [hj])⟩⟩
theorem Ints.vals {w : World} {v : Value} {l : List Int} (h : Ints w v l) : Vals w v (l.map (Value.int .i64)) := by
  obtain ⟨a, cap, hv, hc, h⟩ := h
  refine ⟨a, cap, by rw [List.length_map]; exact hv, by rw [List.length_map]; exact hc, fun hl => ?_⟩
  rw [List.length_map] at hl
  obtain ⟨b, off, ha, h⟩ := h hl
  refine ⟨b, off, ha, fun j u hj => ?_⟩
  rw [List.getElem?_map] at hj
  cases hq : l[j]? with
  | none => rw [hq] at hj; cases hj
  | some x =>
    rw [hq] at hj
    have := h j (List.getElem?_eq_some_iff.1 hq).1
    rw [hq] at this
    rw [this]; exact hj

/-- the slice v holds slices that hold the lists ll. -/
def RowsOf (w : World) (v : Value) (ll : List (List Int)) : Prop := ∃ us : List Value, Vals w v us ∧ us.length = ll.length ∧ ∀ (j : Nat) (u : Value) (l : List Int), us[j]? = some u → ll[j]? = some l → Ints w u l
theorem RowsOf.carry {w w' : World} {v : Value} {ll : List (List Int)} (h : RowsOf w v ll) (hb : Below w.heap.size w w') : RowsOf w' v ll := by
  obtain ⟨us, h1, h2, h3⟩ := h
  exact ⟨us, h1.carry hb, h2, fun j u l hu hl => (h3 j u l hu hl).carry hb⟩
theorem RowsOf.nil (w : World) : RowsOf w (.slice none 0 0) [] := ⟨[], Vals.nil w, rfl, fun j u l h => by simp at h⟩

theorem Blk.stable {β : Type} {H B : Nat} (h : B < H) (T : TypeId) (f : β → List Value) : StableFrom H (fun (s : β) W => Blk W B T (f s)) := fun s A B' row hs hg hr =>
  (hg.block B (Blk.lt hs) (fun e => by have := hr B e.symm; omega)).trans hs

/-- what reads cells alone abides the turn of a block that is no cells. -/
theorem Vals.kept {A B : World} {row : Option Nat} {v : Value} {us : List Value} (h : Vals A v us) (hg : A.grownBy B row) (hr : ∀ r, row = some r → ∃ o : Obj, A.heap[r]? = some o ∧ o.isCells = false) : Vals B v us := by
  obtain ⟨a, cap, hv, hc, h⟩ := h
  refine ⟨a, cap, hv, hc, fun hl => ?_⟩
  obtain ⟨b, off, ha, h⟩ := h hl
  exact ⟨b, off, ha, fun j u hj => cell_kept (h j u hj) hg hr⟩
theorem Ints.kept {A B : World} {row : Option Nat} {v : Value} {l : List Int} (h : Ints A v l) (hg : A.grownBy B row) (hr : ∀ r, row = some r → ∃ o : Obj, A.heap[r]? = some o ∧ o.isCells = false) : Ints B v l := (h.vals.kept hg hr).ints
theorem RowsOf.kept {A B : World} {row : Option Nat} {v : Value} {ll : List (List Int)} (h : RowsOf A v ll) (hg : A.grownBy B row) (hr : ∀ r, row = some r → ∃ o : Obj, A.heap[r]? = some o ∧ o.isCells = false) : RowsOf B v ll := by
  obtain ⟨us, h1, h2, h3⟩ := h
  exact ⟨us, h1.kept hg hr, h2, fun j u l hu hl => (h3 j u l hu hl).kept hg hr⟩

section
attribute [local go_sem] Oper.semAt_some

set_option maxHeartbeats 400000 in
theorem rows_any (a : Option Addr) (n c : Nat) (w : World) :
    Calls Tryz.prog 95 #[.slice a n c] w fun e w' => e = .returned (.func (.func 123) #[] #[.pointer (some ⟨w.heap.size, 0, none⟩)]) ∧ w.alloc (.cells #[.slice a n c] 30) = w' := by
  go_enter Tryz.func95, Tryz.ntmps95
  go_wp2
  go_ret
  exact ⟨rfl, rfl⟩

theorem rows_seq (n : Nat) (hn : 1 ≤ n) (Bs : Nat) (v : Value) (p : List Int) (hl : p.length ≤ 1000000000) (w : World) (hBs : w.cell? ⟨Bs, 0, none⟩ = some v) (hv : Ints w v p) :
    SeqX Fence.wide n Tryz.prog 123 #[.pointer (some ⟨Bs, 0, none⟩)] (fun x : Value × List Int => #[x.1]) (fun pre x W => OwnI 3 0 W x.1 x.2 ∧ pre.length < p.length) KInt (fun xs => xs.map Prod.snd = tableW p) (fun _ => True) false w :=
  fun l J Jx W hW hJ _ hY h00 => (rows1_in n hn l Bs v p hl J Jx (fun pre A B h hg => hJ pre A B none h hg (fun r e => by cases e)) hY W (cellb hBs hW) (hv.carry hW) h00).mono fun _ _ ⟨hv, h⟩ => ⟨hv, h.imp (fun ⟨ys, a, b⟩ => ⟨ys, a, b⟩) (fun ⟨pre, h⟩ => ⟨pre, trivial, h⟩)⟩

theorem kint_of_grown {A B : World} {row : Option Nat} (hg : A.grownBy B row) (hr : ∀ r, row = some r → ∃ o : Obj, A.heap[r]? = some o ∧ o.isCells = false) : KInt A B := fun b c hc => by
  refine (hg.block b (Array.getElem?_eq_some_iff.1 hc).1 (fun e => ?_)).trans hc
  obtain ⟨o, ho, h1⟩ := hr b e.symm
  rw [hc] at ho; cases ho; cases h1
theorem ownI_own {α : Type} (f : α → List (Value × List Int)) : Own (fun (s : α) W => ∀ x ∈ f s, OwnI 3 0 W x.1 x.2) := fun _ _ _ _ hs hg hr x hx => (hs x hx).kint (kint_of_grown hg hr)
theorem KInt.below {A B : World} (h : Below A.heap.size A B) : KInt A B := fun b _ hc => (h.block b (Array.getElem?_eq_some_iff.1 hc).1).trans hc
theorem KInt.set {A B : World} {b o : Nat} {T : TypeId} {c : Array Value} (h : KInt A B) (hb : B.heap[b]? = some (.cells c T (0, 0))) (hT : T ≠ 3) (v : Value) : KInt A (B.setCell ⟨b, o, none⟩ v) := fun b' c' hc => by
  refine (Below.heap_setCell _ _ _ _ ?_).trans (h b' c' hc)
  rintro rfl
  have := (h _ c' hc).symm.trans hb
  simp at this
  exact hT this.2.symm
theorem kint_append {A B : World} {base e n : Nat} {v : Value} {xs : List Value} {o : Obj} (h : A.ownsRow base e 1 v n xs) (he : e ≠ 3) (hg : (A.alloc o).grownBy B v.ownBlock) : KInt A B := fun b c hc => by
  have hc' : (A.alloc o).heap[b]? = some (.cells c 3 (0, 0)) := ((Below.refl A.heap.size A).alloc (Nat.le_refl _) o).block b (Array.getElem?_eq_some_iff.1 hc).1 |>.trans hc
  refine (hg.block b (Array.getElem?_eq_some_iff.1 hc').1 (fun e' => ?_)).trans hc'
  rcases h.2 with ⟨rfl, _⟩ | ⟨g, cap, cur, rfl, _, hgb, _⟩
  · simp [Value.ownBlock] at e'
  · obtain rfl : b = g := by simpa [Value.ownBlock] using e'
    have := hc.symm.trans hgb
    simp at this
    exact he this.2.symm

theorem Tryz.infoRow : (Tryz.prog.info? 126).map (fun i => (i.zero, i.size, i.bytes)) = some (some (.slice none 0 0), 1, 24) := by kernel_rfl

theorem tableL_length (f : Nat) (r : List Int) : (tableL f r).length ≤ f := by
  induction f generalizing r with
  | zero => simp [tableL]
  | succ f ih => unfold tableL; split; · simp
                 split; · simp
                 have := ih (nextL r); simp; omega

set_option maxRecDepth 100000 in
set_option maxHeartbeats 2000000 in
theorem table_any (v : Value) (p : List Int) (w : World) (hv : Ints w v p) (hl : p.length ≤ 1000000) :
    Calls Tryz.prog 55 #[v] w fun e w' => (∃ u, e = .returned u ∧ RowsOf w' u (tableW p)) ∧ Below w.heap.size w w' := by
  refine (callsIn_wide (n := 5)).1 ?_
  have hv' := hv
  obtain ⟨a, cap, rfl, hcap, _⟩ := hv'
  have hwf : ∀ f, Fence.wide.fn f := fun _ => trivial
  obtain ⟨i0, hi, hz0, hz1, hz2⟩ := info_parts Tryz.infoRow
  refine callsIn_of_wp_marks Tryz.func55 rfl trivial ?_ rfl
  simp only [Tryz.ntmps55, List.size_toArray, List.length_cons, List.length_nil, Nat.reduceAdd, Nat.reduceSub, Array.replicate_succ, Array.replicate_zero, List.push_toArray, List.append_toArray, List.nil_append, List.cons_append]
  gi_wp2_with (gi_at_call 95; refine ((callsIn_wide (n := 4)).2 (rows_any _ _ _ _)).mono ?_; rintro e w' ⟨rfl, rfl⟩)
  obtain ⟨w1, hw1⟩ : ∃ w1, w1 = w.alloc (Obj.cells #[Value.slice none 0 0] 45) := ⟨_, rfl⟩
  have b1 := below_new w (Obj.cells #[Value.slice none 0 0] 45)
  have x1 := Boxed.new w 45 (Value.slice none 0 0)
  have s1 : w1.heap.size = w.heap.size + 1 := by rw [hw1]; simp
  rw [← hw1] at b1 x1 ⊢
  obtain ⟨W0, hW0⟩ : ∃ W0, W0 = w1.alloc (Obj.cells #[Value.slice a p.length cap] 30) := ⟨_, rfl⟩
  have x2 := x1.alloc (Obj.cells #[Value.slice a p.length cap] 30)
  have c2 := cell_new w1 #[Value.slice a p.length cap] 30 0
  have b2 := bthen b1 (below_new w1 (Obj.cells #[Value.slice a p.length cap] 30))
  rw [← hW0] at b2 x2 c2 ⊢
  rw [s1] at c2
  have s2 : W0.heap.size = w.heap.size + 2 := by rw [hW0]; simp [s1]
  clear hW0 hw1 b1 x1 s1
  refine wpIn_rangeX rfl (by omega) (gf := 123) (lb := #[.pointer (some ⟨w.heap.size + 1, 0, none⟩)]) rfl trivial (enters_of Tryz.func123 (by kernel_rfl) rfl)
    (rows_seq 4 (by omega) (w.heap.size + 1) _ p (by omega) W0 c2 (hv.carry b2)) KInt.trans (fun W l o o' _ h h1 _ => KInt.turn W l o o' h h1) (Below.refl _ _) (fun _ => rfl)
    (fun pre W => ((∃ v, Boxed W w.heap.size 45 v ∧ W.ownsRow w.heap.size 126 1 v pre.length (pre.map Prod.fst) ∧ True) ∧ (∀ x ∈ pre, OwnI 3 0 W x.1 x.2)) ∧ Below w.heap.size w W)
    (fun _ _ _ => False)
    (OwnFrom.and (OwnFrom.and (Own.from (holdsRow_own w.heap.size w.heap.size 45 126 1 (fun pre : List (Value × List Int) => pre.length) (fun pre => pre.map Prod.fst) (fun _ _ => True)) _) (Own.from (ownI_own (fun pre => pre)) _)) (ownFrom_below (Nat.le_refl _) (by omega)))
    (fun _ _ _ _ _ hs _ _ => hs)
    ⟨⟨⟨_, x2, ⟨rfl, .inl ⟨rfl, rfl⟩⟩, trivial⟩, fun x hx => by simp at hx⟩, b2⟩ (fun h => by cases h)
    (fun pre x a' W => a' = { tmps := #[Value.slice a p.length cap, undef, Value.slice none 0 0, Value.pointer (some { block := w.heap.size, off := 0 }), x.1, Value.slice a p.length cap, Value.func (Fn.func 123) #[] #[Value.pointer (some { block := w.heap.size + 1, off := 0 })], x.1, undef, undef, undef, undef, undef], defers := [] } ∧ OwnI 3 0 W x.1 x.2 ∧ pre.length < p.length)
    (fun _ x a' _ A B row hs hg hr => ⟨hs.1, hs.2.1.kint (kint_of_grown hg (fun r e => (hr r e).2)), hs.2.2⟩)
    ?assign ?body ?done ?stop
  case assign =>
    intro l pre x W K hI hx hK
    gi_wp2
    exact hK _ _ (KeepsFrom.refl _ _) (fun b c h => h) hI ⟨rfl, hx⟩
  case body =>
    rintro l pre ⟨xv, xl⟩ a' W ⟨⟨⟨ov, hbx, hown, _⟩, hall⟩, hB⟩ ⟨rfl, hx, hlen⟩
    obtain ⟨xa, xc, hxv, _⟩ := hx.ints
    simp only at hxv hx
    subst hxv
    have c0 := hbx.cell
    have hn : w.heap.size ≤ W.heap.size := hB.size
    gi_wp2_with (gi_at_builtin; refine wpListIn_append_own _ rfl (.tmp 8) (.tmp 10) 45 rfl w.heap.size 126 i0 (.slice none 0 0) 1 24 Tryz.underlying45 hi hz0 hz1 hz2 rfl (by decide) _ _ _ rfl (hown.alloc _) ⟨W.heap.size, 0, none⟩ 1 1 [.slice xa xl.length xc] rfl rfl (cell_one_new _ _ _) (by simp [Value.oneCell']) (by unfold maxLen; omega) (by omega) (by simp; omega) ?_; intro v' w5 hown5 hgrow5 _; obtain ⟨g, gc, rfl⟩ := ownsRow_succ hown5; obtain ⟨k1, k2, k3, k4, k5⟩ := hbx.appended (by decide) hown hn (Nat.le_refl _) hown5 hgrow5; have hk := kint_append hown (by decide) hgrow5; have c1 := k1.cell; have f1 := k1.frozen; clear c0)
    have hk2 := hk.set (o := 0) k1 (by decide) (.slice (some ⟨g, 0, none⟩) (pre.length + 1) gc)
    refine ⟨k4.from _, hk2, ⟨⟨_, k2, by simpa using k3⟩, ?_⟩, hB.trans k5⟩
    intro yv yl hy
    rcases List.mem_append.1 hy with hy | hy
    · exact (hall _ hy).kint hk2
    · obtain ⟨rfl, rfl⟩ := Prod.mk.inj (List.mem_singleton.1 hy)
      exact hx.kint hk2
  case done =>
    rintro D ys W hD hS ⟨⟨⟨ov, hbx, hown, _⟩, hall⟩, hB⟩ hK
    have c0 := hbx.cell
    have hR : RowsOf W ov (tableW p) := ⟨ys.map Prod.fst, Vals.of_own (by rw [List.length_map]; exact hown), by rw [← hS]; simp, fun j u l hu hl => by
      rw [← hS] at hl
      rw [List.getElem?_map] at hu hl
      cases hq : ys[j]? with
      | none => rw [hq] at hu; cases hu
      | some y =>
        rw [hq] at hu hl
        cases hu; cases hl
        exact (hall y (List.mem_of_getElem? hq)).ints⟩
    gi_wp2
    refine ⟨by simp, .inl ⟨_, _, rfl, run_takeDeferred hK, ?_⟩⟩
    exact ⟨ov, by simp [results, Tryz.f55, go_sem], ⟨_, rfl, hR.kept (grownBy_putObj' _ D (.deferred none)) (fun r e => by cases e; exact ⟨_, hK, rfl⟩)⟩, hB.trans (belowK_b (w := w) (Nat.le_refl _) _ D _ _ (by omega) hK rfl rfl)⟩
  case stop =>
    rintro D c pre W _ _ h _
    exact h.elim
end

def findL {α : Type} (g : α → Bool) (l : List α) : Int := match l.findIdx? g with | some i => (i : Int) | none => -1
theorem findL_none {α : Type} {g : α → Bool} {l : List α} (h : l.any g = false) : findL g l = -1 := by
  have : l.findIdx? g = none := by
    rw [List.findIdx?_eq_none_iff]; intro x hx; exact (List.any_eq_false.1 h) x hx |> Bool.eq_false_iff.2
  simp [findL, this]
theorem findL_some {α : Type} {g : α → Bool} {l : List α} {k : Nat} {x : α} (hk : l[k]? = some x) (h : (l.take k).any g = false) (hx : g x = true) : findL g l = k := by
  have : l.findIdx? g = some k := by
    rw [List.findIdx?_eq_some_iff_getElem]
    obtain ⟨hlt, he⟩ := List.getElem?_eq_some_iff.1 hk
    refine ⟨hlt, by rw [he]; exact hx, fun j hj => ?_⟩
    have := List.any_eq_false.1 h (l[j]'(by omega)) (by rw [List.mem_take_iff_getElem]; exact ⟨j, by omega, rfl⟩)
    simpa using this
  simp [findL, this]
theorem findL_ge {α : Type} (g : α → Bool) (l : List α) : decide (0 ≤ findL g l) = l.any g := by
  unfold findL
  cases h : l.findIdx? g with
  | none =>
    have : l.any g = false := by
      rw [List.findIdx?_eq_none_iff] at h
      rw [List.any_eq_false]; intro x hx; rw [h x hx]; simp
    simp [this]
  | some i =>
    rw [List.findIdx?_eq_some_iff_getElem] at h
    obtain ⟨hlt, hg, _⟩ := h
    have : l.any g = true := List.any_eq_true.2 ⟨_, List.getElem_mem hlt, hg⟩
    simp [this]
theorem anyL_take_succ {α : Type} {g : α → Bool} {l : List α} {k : Nat} {x : α} (hk : l[k]? = some x) (h : (l.take k).any g = false) (hx : g x = false) : (l.take (k + 1)).any g = false := by
  rw [List.take_add_one, hk, List.any_append, h]; simp [hx]

set_option maxHeartbeats 400000 in
theorem IndexFuncR_any (K : Nat) (cap : Array Value) (henter : ∀ args w, Sem.run Tryz.prog (callFunc K args) w = .ok (.enter K args) w) (g : List Int → Bool) (v : Value) (ll : List (List Int)) (w : World) (hl : ll.length ≤ 1000000000) (hv : RowsOf w v ll)
    (hf : ∀ (l : List Int) (u : Value) (w1 : World), l ∈ ll → Ints w1 u l → Calls Tryz.prog K (#[u] ++ cap) w1 fun r w2 => r = .returned (.bool (g l)) ∧ Below w1.heap.size w1 w2) :
    Calls Tryz.prog 125 #[v, .func (.func K) #[] cap] w fun r w' => r = .returned (.int .i64 (findL g ll)) ∧ Below w.heap.size w w' := by
  obtain ⟨us, hv, hlen, hin⟩ := hv
  rcases Nat.eq_zero_or_pos us.length with h0 | h0
  · obtain rfl : us = [] := List.length_eq_zero_iff.1 h0
    obtain rfl : ll = [] := List.length_eq_zero_iff.1 hlen.symm
    obtain ⟨a, cp, rfl, _, _⟩ := hv
    go_enter Tryz.func125, Tryz.ntmps125
    go_wp2
    go_loop [8] (fun i => i = .int .i64 0) (fun _ => 0)
    case atStart => rfl
    case round =>
      obtain rfl := hrel
      go_wp2
      go_ret
      exact ⟨rfl, Below.refl _ _⟩
  · obtain ⟨b, off, cp, rfl, hcs⟩ := hv.head h0
    clear hv
    rw [hlen] at h0 ⊢
    go_enter Tryz.func125, Tryz.ntmps125
    go_wp2
    go_loopw [8] (fun i wr => ∃ k : Nat, k ≤ ll.length ∧ i = .int .i64 k ∧ (ll.take k).any g = false ∧ Below w.heap.size w wr) (fun i _ => ll.length - (intOf i).toNat)
    case atStart => exact ⟨0, by omega, rfl, rfl, Below.refl _ _⟩
    case round =>
      obtain ⟨k, hk, rfl, hf0, hbr⟩ := hrel
      have HF := Lib.hid hf0
      clear hf0
      by_cases hlt : k < ll.length
      · obtain ⟨u, hu⟩ : ∃ u, us[k]? = some u := ⟨us[k]'(by omega), List.getElem?_eq_getElem _⟩
        obtain ⟨l, hll⟩ : ∃ l, ll[k]? = some l := ⟨ll[k]'hlt, List.getElem?_eq_getElem _⟩
        have hiw := (hin k u l hu hll).carry hbr
        have hcell := cellb (hcs k u hu) hbr
        have hmem : l ∈ ll := List.mem_of_getElem? hll
        have hfx := hf l u wr hmem hiw
        have HX := Lib.hid hll
        have HFX := Lib.hid hfx
        clear hcs hll hu hlen hin hfx
        obtain ⟨ua, uc, rfl, _⟩ := hiw
        by_cases hg : g l = true
        · rw [hg] at HFX
          go_wp2_with fail
          refine HFX.out.mono ?_
          rintro e w2 ⟨rfl, hb2⟩
          go_wp2
          go_ret
          exact ⟨ret_int (findL_some HX.out HF.out hg).symm, bthen hbr hb2⟩
        · have hg' : g l = false := by simpa using hg
          clear hg
          rw [hg'] at HFX
          go_wp2_with fail
          refine HFX.out.mono ?_
          rintro e w2 ⟨rfl, hb2⟩
          go_wp2
          go_roundw
          case rel => exact ⟨k + 1, by omega, by go_num, anyL_take_succ HX.out HF.out hg', bthen hbr hb2⟩
          case measure => simp [intOf]; omega
      · obtain rfl : k = ll.length := by omega
        clear hlen
        go_wp2
        go_ret
        exact ⟨ret_int (findL_none (by have := HF.out; rwa [List.take_length] at this)).symm, hbr⟩

set_option maxHeartbeats 400000 in
theorem ContainsFuncR_any (K : Nat) (cap : Array Value) (henter : ∀ args w, Sem.run Tryz.prog (callFunc K args) w = .ok (.enter K args) w) (g : List Int → Bool) (v : Value) (ll : List (List Int)) (w : World) (hl : ll.length ≤ 1000000000) (hv : RowsOf w v ll)
    (hf : ∀ (l : List Int) (u : Value) (w1 : World), l ∈ ll → Ints w1 u l → Calls Tryz.prog K (#[u] ++ cap) w1 fun r w2 => r = .returned (.bool (g l)) ∧ Below w1.heap.size w1 w2) :
    Calls Tryz.prog 96 #[v, .func (.func K) #[] cap] w fun r w' => r = .returned (.bool (ll.any g)) ∧ Below w.heap.size w w' := by
  have hge := findL_ge g ll
  have HG := Lib.hid hge
  clear hge
  go_enter Tryz.func96, Tryz.ntmps96
  go_wp2_with fail
  refine (IndexFuncR_any K cap henter g v ll w hl hv hf).mono ?_
  rintro e w1 ⟨rfl, hb⟩
  go_wp2
  go_ret
  exact ⟨ret_bool HG.out, hb⟩

theorem Tryz.enterFails (args : Array Value) (w : World) : Sem.run Tryz.prog (callFunc 97 args) w = .ok (.enter 97 args) w :=
  MuLone.run_callFunc_enter Tryz.func97 (by kernel_rfl) rfl args w

theorem table_mem {p l : List Int} (h : l ∈ tableW p) : 1 < l.length ∧ l.length ≤ p.length := by
  have key : ∀ (f : Nat) (r : List Int), l ∈ tableL f r → 1 < l.length ∧ l.length ≤ r.length := by
    intro f
    induction f with
    | zero => intro r h; simp [tableL] at h
    | succ f ih =>
      intro r h
      unfold tableL at h
      split at h
      · simp at h
      · split at h
        · obtain rfl := List.mem_singleton.1 h; omega
        · rcases List.mem_cons.1 h with rfl | h
          · omega
          · have := ih _ h
            rw [nextL, upto_length] at this
            omega
  exact key _ p h

def stableB (p : List Int) : Bool := !(tableW p).any failsB

set_option maxHeartbeats 400000 in
theorem isStable_any (v : Value) (p : List Int) (w : World) (hv : Ints w v p) (hl : p.length ≤ 1000000) :
    Calls Tryz.prog 56 #[v] w fun e w' => e = .returned (.bool (stableB p)) ∧ Below w.heap.size w w' := by
  have htl := tableL_length p.length p
  have hst : (!(tableW p).any failsB) = stableB p := rfl
  have HS := Lib.hid hst
  clear hst
  go_enter Tryz.func56, Tryz.ntmps56
  go_wp2_with fail
  refine (table_any v p w hv hl).mono ?_
  rintro e w1 ⟨⟨u, rfl, hu⟩, hb⟩
  go_wp2_with fail
  refine (ContainsFuncR_any 97 #[] Tryz.enterFails failsB u (tableW p) w1 (by unfold tableW; omega) hu (fun l u w1 hm hi => fails_any u l w1 hi (by have := table_mem hm; omega) (by have := table_mem hm; omega))).mono ?_
  rintro e w2 ⟨rfl, hb2⟩
  go_wp2
  go_ret
  exact ⟨ret_bool HS.out, bthen hb hb2⟩

/-- the slice v holds the pairs l. -/
def Pairs (w : World) (v : Value) (l : List (Int × Int)) : Prop :=
  ∃ a cap, v = .slice a l.length cap ∧ l.length ≤ cap ∧ (0 < l.length → ∃ b off, a = some ⟨b, off, none⟩ ∧ ∀ (j : Nat) (x : Int × Int), l[j]? = some x → w.cell? ⟨b, off + j * 2, none⟩ = some (.int .i64 x.1) ∧ w.cell? ⟨b, off + j * 2 + 1, none⟩ = some (.int .i64 x.2))
theorem Pairs.carry {w w' : World} {v : Value} {l : List (Int × Int)} (h : Pairs w v l) (hb : Below w.heap.size w w') : Pairs w' v l := by
  obtain ⟨a, cap, hv, hc, h⟩ := h
  refine ⟨a, cap, hv, hc, fun hl => ?_⟩
  obtain ⟨b, off, ha, h⟩ := h hl
  exact ⟨b, off, ha, fun j x hj => ⟨cellb (h j x hj).1 hb, cellb (h j x hj).2 hb⟩⟩
theorem Pairs.head {w : World} {v : Value} {l : List (Int × Int)} (h : Pairs w v l) (h0 : 0 < l.length) : ∃ b off cap, v = .slice (some ⟨b, off, none⟩) l.length cap ∧ ∀ (j : Nat) (x : Int × Int), l[j]? = some x → w.cell? ⟨b, off + j * 2, none⟩ = some (.int .i64 x.1) ∧ w.cell? ⟨b, off + j * 2 + 1, none⟩ = some (.int .i64 x.2) := by
  obtain ⟨a, cap, rfl, _, hc⟩ := h
  obtain ⟨b, off, rfl, hd⟩ := hc h0
  exact ⟨b, off, cap, rfl, hd⟩

set_option maxHeartbeats 1000000 in
theorem mappedI_any (K : Nat) (cap : Array Value) (henter : ∀ args w, Sem.run Tryz.prog (callFunc K args) w = .ok (.enter K args) w) (g : Int × Int → Int) (v : Value) (l : List (Int × Int)) (w : World) (hl : l.length * 16 ≤ 140737488351232) (hv : Pairs w v l)
    (hf : ∀ x ∈ l, ∀ w1, Below w.heap.size w w1 → Calls Tryz.prog K (#[.agg #[.int .i64 x.1, .int .i64 x.2]] ++ cap) w1 fun r w2 => r = .returned (.int .i64 (g x)) ∧ Below w1.heap.size w1 w2) :
    Calls Tryz.prog 129 #[v, .func (.func K) #[] cap] w fun r w' => (∃ u, r = .returned u ∧ Ints w' u (l.map g)) ∧ Below w.heap.size w w' := by
  rcases Nat.eq_zero_or_pos l.length with h0 | h0
  · obtain rfl : l = [] := List.length_eq_zero_iff.1 h0
    obtain ⟨a, cp, rfl, _, _⟩ := hv
    go_enter Tryz.func129, Tryz.ntmps129
    go_wp2
    go_loop [5, 10] (fun v i => v = .slice none 0 0 ∧ i = .int .i64 0) (fun _ _ => 0)
    case atStart => exact ⟨rfl, rfl⟩
    case round =>
      obtain ⟨rfl, rfl⟩ := hrel
      go_wp2
      go_ret
      exact ⟨⟨_, rfl, Ints.nil _⟩, Below.refl _ _⟩
  · obtain ⟨b, off, cp, rfl, hcs⟩ := hv.head h0
    clear hv
    obtain ⟨i0, hi, hz0, hz1, hz2⟩ := info_parts Tryz.infoErrno
    go_enter Tryz.func129, Tryz.ntmps129
    go_wp2
    go_loopw [5, 10] (fun v i wr => ∃ k : Nat, k ≤ l.length ∧ i = .int .i64 k ∧ wr.ownsRow w.heap.size 27 1 v k ((l.take k).map fun x => Value.int .i64 (g x)) ∧ Below w.heap.size w wr) (fun _ i _ => l.length - (intOf i).toNat)
    case atStart => exact ⟨0, by omega, rfl, World.ownsRow_nil _ _ _ _, Below.refl _ _⟩
    case round =>
      obtain ⟨k, hk, rfl, hown, hbel⟩ := hrel
      by_cases hlt : k < l.length
      · obtain ⟨x, hx⟩ : ∃ x, l[k]? = some x := ⟨_, List.getElem?_eq_getElem hlt⟩
        obtain ⟨c0, c1⟩ := hcs k x hx
        have c0 := cellb c0 hbel
        have c1 := cellb c1 hbel
        have HX := Lib.hid hx
        clear hcs hx
        go_wp2_with fail
        have hbx := bthen hbel (below_new wr (Obj.cells #[Value.int IntKind.i64 x.fst, Value.int IntKind.i64 x.snd] 70))
        refine (hf x (List.mem_of_getElem? HX.out) _ hbx).mono ?_
        rintro e w2 ⟨rfl, hb2⟩
        have hbx2 := bthen hbx hb2
        have hown := own_below hown (bthen (below_new wr (Obj.cells #[Value.int IntKind.i64 x.fst, Value.int IntKind.i64 x.snd] 70)) hb2)
        clear hbx hb2 hbel c0 c1
        go_wp2_with (at_builtin; refine wpList_append_own _ rfl _ _ 155 rfl w.heap.size 27 i0 (.int .i64 0) 1 8 Tryz.underlying155 hi hz0 hz1 hz2 rfl (by decide) _ _ _ rfl (hown.alloc _) ⟨w2.heap.size, 0, none⟩ 1 1 [.int .i64 (g x)] rfl rfl (cell_one_new _ _ _) (by simp [Value.oneCell']) (by unfold maxLen; omega) (by omega) (by have := hbx2.size; simp; omega) ?_; intro v' w1 hown' hgrow _)
        have hbel' := below_own hbx2 hown hgrow
        have hown2 : w1.ownsRow w.heap.size 27 1 v' (k + 1) ((l.take (k + 1)).map fun x => Value.int .i64 (g x)) := by
          rw [take_succ_map _ _ _ x HX.out]; exact hown'
        clear hown hbx2 hown' hgrow
        go_wp2
        go_roundw
        case rel => exact ⟨k + 1, by omega, by go_num, hown2, hbel'⟩
        case measure => simp [intOf]; omega
      · obtain rfl : k = l.length := by omega
        have hout : Ints wr u5 (l.map g) := Ints.of_own (n := l.length) (by rw [List.take_length] at hown; rw [List.map_map]; exact hown) (by simp)
        clear hown
        go_wp2
        go_ret
        exact ⟨⟨_, rfl, hout⟩, hbel⟩

set_option maxHeartbeats 1000000 in
theorem with_any (va vb vc vd vp : Value) (p : List Int) (a b c d : List Int) (w : World) (hp : Ints w vp p) (ha : Ints w va a) (hb : Ints w vb b) (hc : Ints w vc c) (hd : Ints w vd d) :
    Calls Tryz.prog 60 #[.agg #[va, vb, vc, vd], vp] w fun e w' => e = .returned (.agg #[vp, vb, vc, vd]) ∧ Below w.heap.size w w' := by
  obtain ⟨xa, ca, rfl, _⟩ := ha
  obtain ⟨xb, cb, rfl, _⟩ := hb
  obtain ⟨xc, cc, rfl, _⟩ := hc
  obtain ⟨xd, cd, rfl, _⟩ := hd
  obtain ⟨xp, cp, rfl, _⟩ := hp
  go_enter Tryz.func60, Tryz.ntmps60
  go_wp2
  exact bodyPost_ret (v := .agg #[.slice xp p.length cp, .slice xb b.length cb, .slice xc c.length cc, .slice xd d.length cd]) (by simp [results, Tryz.f60, go_sem]) rfl ⟨rfl, bthen (below_new _ _) (below_new _ _)⟩

theorem first2d (a b : Int) (T : TypeId) (w : World) :
    Calls Tryz.prog 45 #[.slice (some ⟨w.heap.size, 0, none⟩) 2 2] (w.alloc (.cells #[.int .i64 a, .int .i64 b] T)).drew fun r w' => r = .returned (.int .i64 (firstE [a, b])) ∧ (w.alloc (.cells #[.int .i64 a, .int .i64 b] T)).drew = w' :=
  first_any _ [a, b] _ (by simp [maxLen]) (Ints.lit w T [a, b] 2 rfl).drew
theorem first3d (a b c : Int) (T : TypeId) (w : World) :
    Calls Tryz.prog 45 #[.slice (some ⟨w.heap.size, 0, none⟩) 3 3] (w.alloc (.cells #[.int .i64 a, .int .i64 b, .int .i64 c] T)).drew fun r w' => r = .returned (.int .i64 (firstE [a, b, c])) ∧ (w.alloc (.cells #[.int .i64 a, .int .i64 b, .int .i64 c] T)).drew = w' :=
  first_any _ [a, b, c] _ (by simp [maxLen]) (Ints.lit w T [a, b, c] 3 rfl).drew

def boxE (x : Int × Int) : Int := firstE [coefE x.1, coefE x.2, whenE (decide (x.2 < x.1)) 11]

set_option maxHeartbeats 1000000 in
theorem checkIntervals1_any (x : Int × Int) (w : World) :
    Calls Tryz.prog 130 #[.agg #[.int .i64 x.1, .int .i64 x.2]] w fun e w' => e = .returned (.int .i64 (boxE x)) ∧ Below w.heap.size w w' := by
  obtain ⟨lo, hi⟩ := x
  go_enter Tryz.func130, Tryz.ntmps130
  go_wp2_with fail
  have hB := below_new w (.cells #[.int .i64 lo, .int .i64 hi] 70)
  have hx := Box2.new w 70 (.int .i64 lo) (.int .i64 hi)
  obtain ⟨W, hW⟩ : ∃ W, W = w.alloc (.cells #[.int .i64 lo, .int .i64 hi] 70) := ⟨_, rfl⟩
  rw [← hW] at hB hx ⊢
  clear hW
  obtain ⟨c0, c1, _, _⟩ := hx
  refine wp_region_held_drew (S := (fun w' => w'.cell? ⟨w.heap.size, 0, none⟩ = some (.int .i64 lo) ∧ w'.cell? ⟨w.heap.size, 1, none⟩ = some (.int .i64 hi))) (by kernel_rfl) ?_ (fun hHeld0 => ?_)
  · (try dsimp only); go_keep
  refine wpAnyH_take (i := 0) (oi := { dst := some 3, op := Op.fieldAddr 70 (Operand.tmp 1) 0, type := 0, pos := "loop.go:362", after := #[], guard := none }) (v := ?_) rfl (by kernel_rfl) (by kernel_rfl) (by kernel_rfl) (fun _ _ _ h => h) (Or.inl ⟨by rfl, ?_⟩) (by assumption) ?_
  rotate_left
  · (intro w hSw; (try dsimp only at hSw); go_simp); (try with_reducible rfl)
  try simp only [Act.put, List.setIfInBounds_toArray, List.set_cons_zero, List.set_cons_succ]
  refine wpAnyH_take (i := 1) (oi := { dst := some 4, op := Op.load 3 (Operand.tmp 3), type := 3, pos := "loop.go:362", after := #[{ on := 0, ground := Ground.data }], guard := none }) (v := ?_) rfl (by kernel_rfl) (by kernel_rfl) (by kernel_rfl) (fun _ _ _ h => h) (Or.inl ⟨by rfl, ?_⟩) (by assumption) ?_
  rotate_left
  · (intro w hSw; (try dsimp only at hSw); go_simp); (try with_reducible rfl)
  try simp only [Act.put, List.setIfInBounds_toArray, List.set_cons_zero, List.set_cons_succ]
  refine wpAnyH_take (i := 3) (oi := { dst := some 6, op := Op.fieldAddr 70 (Operand.tmp 1) 1, type := 0, pos := "loop.go:362", after := #[], guard := none }) (v := ?_) rfl (by kernel_rfl) (by kernel_rfl) (by kernel_rfl) (fun _ _ _ h => h) (Or.inl ⟨by rfl, ?_⟩) (by assumption) ?_
  rotate_left
  · (intro w hSw; (try dsimp only at hSw); go_simp); (try with_reducible rfl)
  try simp only [Act.put, List.setIfInBounds_toArray, List.set_cons_zero, List.set_cons_succ]
  refine wpAnyH_take (i := 4) (oi := { dst := some 7, op := Op.load 3 (Operand.tmp 6), type := 3, pos := "loop.go:362", after := #[{ on := 3, ground := Ground.data }], guard := none }) (v := ?_) rfl (by kernel_rfl) (by kernel_rfl) (by kernel_rfl) (fun _ _ _ h => h) (Or.inl ⟨by rfl, ?_⟩) (by assumption) ?_
  rotate_left
  · (intro w hSw; (try dsimp only at hSw); go_simp); (try with_reducible rfl)
  try simp only [Act.put, List.setIfInBounds_toArray, List.set_cons_zero, List.set_cons_succ]
  refine wpAnyH_take (i := 6) (oi := { dst := some 9, op := Op.fieldAddr 70 (Operand.tmp 1) 0, type := 0, pos := "loop.go:362", after := #[], guard := none }) (v := ?_) rfl (by kernel_rfl) (by kernel_rfl) (by kernel_rfl) (fun _ _ _ h => h) (Or.inl ⟨by rfl, ?_⟩) (by assumption) ?_
  rotate_left
  · (intro w hSw; (try dsimp only at hSw); go_simp); (try with_reducible rfl)
  try simp only [Act.put, List.setIfInBounds_toArray, List.set_cons_zero, List.set_cons_succ]
  refine wpAnyH_take (i := 7) (oi := { dst := some 10, op := Op.load 3 (Operand.tmp 9), type := 3, pos := "loop.go:362", after := #[{ on := 6, ground := Ground.data }], guard := none }) (v := ?_) rfl (by kernel_rfl) (by kernel_rfl) (by kernel_rfl) (fun _ _ _ h => h) (Or.inl ⟨by rfl, ?_⟩) (by assumption) ?_
  rotate_left
  · (intro w hSw; (try dsimp only at hSw); go_simp); (try with_reducible rfl)
  try simp only [Act.put, List.setIfInBounds_toArray, List.set_cons_zero, List.set_cons_succ]
  refine wpAnyH_take (i := 8) (oi := { dst := some 11, op := Op.fieldAddr 70 (Operand.tmp 1) 1, type := 0, pos := "loop.go:362", after := #[], guard := none }) (v := ?_) rfl (by kernel_rfl) (by kernel_rfl) (by kernel_rfl) (fun _ _ _ h => h) (Or.inl ⟨by rfl, ?_⟩) (by assumption) ?_
  rotate_left
  · (intro w hSw; (try dsimp only at hSw); go_simp); (try with_reducible rfl)
  try simp only [Act.put, List.setIfInBounds_toArray, List.set_cons_zero, List.set_cons_succ]
  refine wpAnyH_take (i := 9) (oi := { dst := some 12, op := Op.load 3 (Operand.tmp 11), type := 3, pos := "loop.go:362", after := #[{ on := 8, ground := Ground.data }], guard := none }) (v := ?_) rfl (by kernel_rfl) (by kernel_rfl) (by kernel_rfl) (fun _ _ _ h => h) (Or.inl ⟨by rfl, ?_⟩) (by assumption) ?_
  rotate_left
  · (intro w hSw; (try dsimp only at hSw); go_simp); (try with_reducible rfl)
  try simp only [Act.put, List.setIfInBounds_toArray, List.set_cons_zero, List.set_cons_succ]
  refine wpAnyH_take (i := 10) (oi := { dst := some 13, op := Op.binOp BinOp.gtr 3 (Operand.tmp 10) (Operand.tmp 12) 3, type := 4, pos := "loop.go:362", after := #[{ on := 7, ground := Ground.data }, { on := 9, ground := Ground.data }], guard := none }) (v := ?_) rfl (by kernel_rfl) (by kernel_rfl) (by kernel_rfl) (fun _ _ _ h => h) (Or.inl ⟨by rfl, ?_⟩) (by assumption) ?_
  rotate_left
  · (intro w hSw; (try dsimp only at hSw); go_simp); (try with_reducible rfl)
  try simp only [Act.put, List.setIfInBounds_toArray, List.set_cons_zero, List.set_cons_succ]
  refine wpAnyH_ready (rs := [2]) (by kernel_rfl) (by simp) ?_
  refine (AllReadyH.cons (o := { dst := some 5, op := Op.call { callee := Callee.value (Operand.func 94), args := #[Operand.tmp 4], argTypes := #[3] }, type := 27, pos := "loop.go:362", after := #[{ on := 1, ground := Ground.data }], guard := none }) rfl (fun K hK => ?_) AllReadyH.nil)
  go_simp
  (first | (go_at_call 94; (with_reducible refine (checkCoefficient_any _ _).mono ?_); rintro e w' ⟨rfl, rfl⟩) | (go_at_call 46; (with_reducible refine (when_any _ _ _).mono ?_); rintro e w' ⟨rfl, rfl⟩) | (go_at_call 45; (with_reducible refine (first3d _ _ _ _ _).mono ?_); rintro e w' ⟨rfl, rfl⟩))
  (try go_wp2_with fail)
  refine hK.out _ _ ?_ (fun hHeld1 => ?_)
  · (try dsimp only); go_keep
  clear hK K hHeld0
  try simp only [Act.put, List.setIfInBounds_toArray, List.set_cons_zero, List.set_cons_succ]
  refine wpAnyH_ready (rs := [5]) (by kernel_rfl) (by simp) ?_
  refine (AllReadyH.cons (o := { dst := some 8, op := Op.call { callee := Callee.value (Operand.func 94), args := #[Operand.tmp 7], argTypes := #[3] }, type := 27, pos := "loop.go:362", after := #[{ on := 4, ground := Ground.data }, { on := 2, ground := Ground.chain }], guard := none }) rfl (fun K hK => ?_) AllReadyH.nil)
  go_simp
  (first | (go_at_call 94; (with_reducible refine (checkCoefficient_any _ _).mono ?_); rintro e w' ⟨rfl, rfl⟩) | (go_at_call 46; (with_reducible refine (when_any _ _ _).mono ?_); rintro e w' ⟨rfl, rfl⟩) | (go_at_call 45; (with_reducible refine (first3d _ _ _ _ _).mono ?_); rintro e w' ⟨rfl, rfl⟩))
  (try go_wp2_with fail)
  refine hK.out _ _ ?_ (fun hHeld2 => ?_)
  · (try dsimp only); go_keep
  clear hK K hHeld1
  try simp only [Act.put, List.setIfInBounds_toArray, List.set_cons_zero, List.set_cons_succ]
  refine wpAnyH_ready (rs := [11]) (by kernel_rfl) (by simp) ?_
  refine (AllReadyH.cons (o := { dst := some 14, op := Op.call { callee := Callee.value (Operand.func 46), args := #[Operand.tmp 13, Operand.const (Value.int IntKind.i64 11)], argTypes := #[4, 27] }, type := 27, pos := "loop.go:362", after := #[{ on := 10, ground := Ground.data }, { on := 5, ground := Ground.chain }], guard := none }) rfl (fun K hK => ?_) AllReadyH.nil)
  go_simp
  (first | (go_at_call 94; (with_reducible refine (checkCoefficient_any _ _).mono ?_); rintro e w' ⟨rfl, rfl⟩) | (go_at_call 46; (with_reducible refine (when_any _ _ _).mono ?_); rintro e w' ⟨rfl, rfl⟩) | (go_at_call 45; (with_reducible refine (first3d _ _ _ _ _).mono ?_); rintro e w' ⟨rfl, rfl⟩))
  (try go_wp2_with fail)
  refine hK.out _ _ ?_ (fun hHeld3 => ?_)
  · (try dsimp only); go_keep
  clear hK K hHeld2
  try simp only [Act.put, List.setIfInBounds_toArray, List.set_cons_zero, List.set_cons_succ]
  refine wpAnyH_ready (rs := [12]) (by kernel_rfl) (by simp) ?_
  refine (AllReadyH.cons (o := { dst := some 15, op := Op.buildSlice 155 3 #[(0, Operand.tmp 5), (1, Operand.tmp 8), (2, Operand.tmp 14)], type := 155, pos := "loop.go:362", after := #[{ on := 2, ground := Ground.data }, { on := 5, ground := Ground.data }, { on := 11, ground := Ground.data }], guard := none }) rfl (fun K hK => ?_) AllReadyH.nil)
  go_simp
  refine hK.out _ _ ?_ (fun hHeld4 => ?_)
  · (try dsimp only); go_keep
  clear hK K hHeld3
  try simp only [Act.put, List.setIfInBounds_toArray, List.set_cons_zero, List.set_cons_succ]
  refine wpAnyH_ready (rs := [13]) (by kernel_rfl) (by simp) ?_
  refine (AllReadyH.cons (o := { dst := some 16, op := Op.call { callee := Callee.value (Operand.func 45), args := #[Operand.tmp 15], argTypes := #[155] }, type := 27, pos := "loop.go:362", after := #[{ on := 12, ground := Ground.data }, { on := 11, ground := Ground.chain }], guard := none }) rfl (fun K hK => ?_) AllReadyH.nil)
  go_simp
  (first | (go_at_call 94; (with_reducible refine (checkCoefficient_any _ _).mono ?_); rintro e w' ⟨rfl, rfl⟩) | (go_at_call 46; (with_reducible refine (when_any _ _ _).mono ?_); rintro e w' ⟨rfl, rfl⟩) | (go_at_call 45; (with_reducible refine (first3d _ _ _ _ _).mono ?_); rintro e w' ⟨rfl, rfl⟩))
  (try go_wp2_with fail)
  refine hK.out _ _ ?_ (fun hHeld5 => ?_)
  · (try dsimp only); go_keep
  clear hK K hHeld4
  try simp only [Act.put, List.setIfInBounds_toArray, List.set_cons_zero, List.set_cons_succ]
  refine wpAnyH_take (i := 14) (oi := { dst := some 2, op := Op.assign (Operand.tmp 16), type := 27, pos := "loop.go:362", after := #[{ on := 13, ground := Ground.data }, { on := 13, ground := Ground.chain }, { on := 0, ground := Ground.phase }, { on := 1, ground := Ground.phase }, { on := 2, ground := Ground.phase }, { on := 3, ground := Ground.phase }, { on := 4, ground := Ground.phase }, { on := 5, ground := Ground.phase }, { on := 6, ground := Ground.phase }, { on := 7, ground := Ground.phase }, { on := 8, ground := Ground.phase }, { on := 9, ground := Ground.phase }, { on := 10, ground := Ground.phase }, { on := 11, ground := Ground.phase }, { on := 12, ground := Ground.phase }, { on := 13, ground := Ground.phase }], guard := none }) (v := ?_) rfl (by kernel_rfl) (by kernel_rfl) (by kernel_rfl) (fun _ _ _ h => h) (Or.inl ⟨by rfl, ?_⟩) (by assumption) ?_
  rotate_left
  · (intro w hSw; (try dsimp only at hSw); go_simp); (try with_reducible rfl)
  try simp only [Act.put, List.setIfInBounds_toArray, List.set_cons_zero, List.set_cons_succ]
  refine wpAnyH_done (by kernel_rfl) ?_ _
  clear hHeld5
  go_wp2
  go_ret
  exact ⟨rfl, bthen hB (below_new _ _).drew⟩

def manyW (l : List (Int × Int)) : Nat → Int
  | 0 => 1
  | k + 1 => wrap64 (manyW l k * wrap64 (wrap64 ((l[k]?.getD (0, 0)).2 - (l[k]?.getD (0, 0)).1) + 1))

set_option maxHeartbeats 1000000 in
theorem many_any (v : Value) (l : List (Int × Int)) (w : World) (hv : Pairs w v l) (hl : l.length ≤ 1000000) :
    Calls Tryz.prog 104 #[v] w fun e w' => e = .returned (.int .i64 (manyW l l.length)) ∧ Below w.heap.size w w' := by
  rcases Nat.eq_zero_or_pos l.length with h0 | h0
  · obtain rfl : l = [] := List.length_eq_zero_iff.1 h0
    obtain ⟨a, cp, rfl, _, _⟩ := hv
    go_enter Tryz.func104, Tryz.ntmps104
    go_wp2
    go_loop [3, 8] (fun v i => v = .int .i64 1 ∧ i = .int .i64 0) (fun _ _ => 0)
    case atStart => exact ⟨rfl, rfl⟩
    case round =>
      obtain ⟨rfl, rfl⟩ := hrel
      go_wp2
      go_ret
      exact ⟨rfl, Below.refl _ _⟩
  · obtain ⟨b, off, cp, rfl, hcs⟩ := hv.head h0
    clear hv
    go_enter Tryz.func104, Tryz.ntmps104
    go_wp2
    go_loopw [3, 8] (fun v i wr => ∃ k : Nat, k ≤ l.length ∧ i = .int .i64 k ∧ v = .int .i64 (manyW l k) ∧ Below w.heap.size w wr) (fun _ i _ => l.length - (intOf i).toNat)
    case atStart => exact ⟨0, by omega, rfl, rfl, Below.refl _ _⟩
    case round =>
      obtain ⟨k, hk, rfl, rfl, hbel⟩ := hrel
      by_cases hlt : k < l.length
      · obtain ⟨x, hx⟩ : ∃ x, l[k]? = some x := ⟨_, List.getElem?_eq_getElem hlt⟩
        obtain ⟨c0, c1⟩ := hcs k x hx
        have c0 := cellb c0 hbel
        have c1 := cellb c1 hbel
        have hN : wrap64 (manyW l k * wrap64 (wrap64 (x.2 - x.1) + 1)) = manyW l (k + 1) := by rw [manyW, hx]; rfl
        have HN := Lib.hid hN
        clear hcs hx hN
        obtain ⟨lo, hi⟩ := x
        generalize manyW l k = m at HN ⊢
        go_wp2
        go_roundw
        case rel => exact ⟨k + 1, by omega, by go_num, by rw [← HN.out], bthen hbel (below_new _ _)⟩
        case measure => simp [intOf]; omega
      · obtain rfl : k = l.length := by omega
        go_wp2
        go_ret
        exact ⟨rfl, hbel⟩

theorem Tryz.enterCheckIntervals1 (args : Array Value) (w : World) : Sem.run Tryz.prog (callFunc 130 args) w = .ok (.enter 130 args) w :=
  MuLone.run_callFunc_enter Tryz.func130 (by kernel_rfl) rfl args w

def intervalsE (l : List (Int × Int)) : Int := firstE (l.map boxE)

set_option maxHeartbeats 400000 in
theorem checkIntervals_any (v : Value) (l : List (Int × Int)) (w : World) (hv : Pairs w v l) (hl : l.length ≤ 1000000) :
    Calls Tryz.prog 103 #[v] w fun e w' => e = .returned (.int .i64 (intervalsE l)) ∧ Below w.heap.size w w' := by
  have hv' := hv
  obtain ⟨a, cp, rfl, _, _⟩ := hv'
  go_enter Tryz.func103, Tryz.ntmps103
  go_wp2_with fail
  refine (mappedI_any 130 #[] Tryz.enterCheckIntervals1 boxE _ l w (by omega) hv (fun x _ w1 _ => checkIntervals1_any x w1)).mono ?_
  rintro e w1 ⟨⟨u, rfl, hu⟩, hb⟩
  go_wp2_with fail
  refine (first_any _ _ _ (by simp; unfold maxLen; omega) hu).mono ?_
  rintro e w' ⟨rfl, rfl⟩
  go_wp2
  go_ret
  exact ⟨rfl, hb⟩

end Go.Proofs.YtfdehcphmmhjaaaGreatDoor

/- The package flow at straight lines: the power at a voltage. -/
import Derived.Test.YtipmjjnhdjcoiaaFlowB
namespace Go.Proofs.Ytipmjjnhdjcoiaa
set_option linter.unusedSimpArgs false
set_option linter.unusedVariables false
open Go.RowKit

theorem mulb {x y A B : Int} (hx : -A ≤ x ∧ x ≤ A) (hy : -B ≤ y ∧ y ≤ B) : -(A * B) ≤ x * y ∧ x * y ≤ A * B := by
  have h : (x * y).natAbs ≤ A.natAbs * B.natAbs := by rw [Int.natAbs_mul]; exact Nat.mul_le_mul (by omega) (by omega)
  have e : ((A.natAbs * B.natAbs : Nat) : Int) = A * B := by rw [Int.natCast_mul, Int.natAbs_of_nonneg (by omega), Int.natAbs_of_nonneg (by omega)]
  omega
theorem Blk.other2 {w : World} {B B' : Nat} {T : TypeId} {vs : List Value} (h : Blk w B T vs) (hne : B ≠ B') (x y : Value) : Blk ((w.setCell ⟨B', 0, none⟩ x).setCell ⟨B', 1, none⟩ y) B T vs := (h.other hne x).other hne y

set_option maxRecDepth 100000 in
set_option maxHeartbeats 2000000 in
theorem at_any1 (v : Value) (V P Q n R : Int) (w : World) (h : LineIs w v V P Q) (hV : 1 ≤ V ∧ V ≤ 1000) (hP : -1000 ≤ P ∧ P ≤ 1000) (hQ : -1000 ≤ Q ∧ Q ≤ 1000) (hn : 0 ≤ n ∧ n ≤ V)
    (hR : V * R = P * V + (Q - P) * n) (hRb : -1000 ≤ R ∧ R ≤ 1000) :
    Calls Try.prog 84 #[v, .int .i64 n] w fun r w' => r = .returned (.agg #[.int .i64 R, .int .i64 1]) ∧ Below w.heap.size w w' := by
  have HH := Lib.hid h
  have HR := Lib.hid hR
  have HV := Lib.hid hV
  have HP := Lib.hid hP
  have HQ := Lib.hid hQ
  have HN := Lib.hid hn
  have HRB := Lib.hid hRb
  have k1 : IntKind.i64.wrap 1 = 1 := IntWalk.i64_in _ (by omega)
  obtain ⟨b, off, cap, rfl, hcap, _⟩ := id h
  clear hR hV hP hQ hn hRb h
  go_enter Try.func84, Try.ntmps84
  go_upto_region 1 with fail
  obtain ⟨W1, hW1⟩ : ∃ v, v = World.alloc w (Obj.cells #[.int .i64 0, .int .i64 0] 61) := ⟨_, rfl⟩
  have kW1 : Below w.heap.size w W1 := by rw [hW1]; exact below_new _ _
  have iW1 : Blk W1 (w.heap.size) 61 [.int .i64 0, .int .i64 0] := by rw [hW1]; exact Blk.new _ _ _
  have sW1 : W1.heap.size = w.heap.size + 1 := by rw [hW1]; simp
  rw [← hW1]
  clear hW1
  clear sW1
  go_wp2_with fail
  refine (piece_any _ V P Q n W1 (HH.out.carry kW1) HN.out.1).mono ?_
  rintro e w1 ⟨rfl, hl⟩
  have iR := iW1.carry hl
  have hB := bthen kW1 hl
  clear iW1 kW1 hl
  obtain ⟨b', off', cap', e, _, e0, e1, e2, e3⟩ := HH.out.carry hB
  cases e
  go_upto_region 2 with fail
  go_cut [6, 7] from 12 to 20 (fun v6 v7 wn => ∃ A B, v6 = .pointer (some ⟨A, 0, none⟩) ∧ v7 = .pointer (some ⟨B, 0, none⟩) ∧ Blk wn A 56 [.int .i64 0, .int .i64 P] ∧ Blk wn B 56 [.int .i64 V, .int .i64 Q] ∧ Below w1.heap.size w1 wn)
  case first =>
    refine wp_region_held_drew (S := (fun w' => w'.cell? ⟨b, off, none⟩ = some (.int .i64 0) ∧ w'.cell? ⟨b, off + 1, none⟩ = some (.int .i64 P) ∧ w'.cell? ⟨b, off + 2, none⟩ = some (.int .i64 V) ∧ w'.cell? ⟨b, off + 3, none⟩ = some (.int .i64 Q))) (by kernel_rfl) ⟨cellb e0 (Below.refl _ _).drew, cellb e1 (Below.refl _ _).drew, cellb e2 (Below.refl _ _).drew, cellb e3 (Below.refl _ _).drew⟩ (fun hHeld0 => ?_)
    obtain ⟨wzd, hwz⟩ : ∃ v, v = w1.drew := ⟨_, rfl⟩
    rw [← hwz] at hHeld0 ⊢
    have hbzd : Below w1.heap.size w1 wzd := by rw [hwz]; exact (Below.refl _ _).drew
    have hlzd : Below w1.heap.size w1 wzd := by rw [hwz]; exact (Below.refl _ _).drew
    clear hwz hlzd
    refine wpAnyH_take (i := 0) (oi := { dst := some 12, op := Op.move (Operand.tmp 0), type := 58, pos := "flow.go:135", after := #[], guard := none }) (v := ?_) rfl (by kernel_rfl) (by kernel_rfl) (by kernel_rfl) (fun _ _ _ h => h) (Or.inl ⟨by rfl, ?_⟩) (by assumption) ?_
    rotate_left
    · (intro w hSw; (try dsimp only at hSw); go_simp); (try with_reducible rfl)
    try simp only [Act.put, List.setIfInBounds_toArray, List.set_cons_zero, List.set_cons_succ]
    refine wpAnyH_take (i := 1) (oi := { dst := some 13, op := Op.move (Operand.tmp 5), type := 3, pos := "flow.go:135", after := #[], guard := none }) (v := ?_) rfl (by kernel_rfl) (by kernel_rfl) (by kernel_rfl) (fun _ _ _ h => h) (Or.inl ⟨by rfl, ?_⟩) (by assumption) ?_
    rotate_left
    · (intro w hSw; (try dsimp only at hSw); go_simp); (try with_reducible rfl)
    try simp only [Act.put, List.setIfInBounds_toArray, List.set_cons_zero, List.set_cons_succ]
    refine wpAnyH_take (i := 2) (oi := { dst := some 14, op := Op.indexAddr 58 (Operand.tmp 12) (Operand.tmp 13), type := 0, pos := "flow.go:135", after := #[{ on := 0, ground := Ground.data }, { on := 1, ground := Ground.data }], guard := none }) (v := ?_) rfl (by kernel_rfl) (by kernel_rfl) (by kernel_rfl) (fun _ _ _ h => h) (Or.inl ⟨by rfl, ?_⟩) (by assumption) ?_
    rotate_left
    · (intro w hSw; (try dsimp only at hSw); go_simp); (try with_reducible rfl)
    try simp only [Act.put, List.setIfInBounds_toArray, List.set_cons_zero, List.set_cons_succ]
    refine wpAnyH_take (i := 3) (oi := { dst := some 15, op := Op.load 56 (Operand.tmp 14), type := 56, pos := "flow.go:135", after := #[{ on := 2, ground := Ground.data }], guard := none }) (v := ?_) rfl (by kernel_rfl) (by kernel_rfl) (by kernel_rfl) (fun _ _ _ h => h) (Or.inl ⟨by rfl, ?_⟩) (by assumption) ?_
    rotate_left
    · (intro w hSw; (try dsimp only at hSw); go_simp); (try with_reducible rfl)
    try simp only [Act.put, List.setIfInBounds_toArray, List.set_cons_zero, List.set_cons_succ]
    refine wpAnyH_take (i := 4) (oi := { dst := some 16, op := Op.move (Operand.tmp 0), type := 58, pos := "flow.go:135", after := #[{ on := 11, ground := Ground.gcOnly Departure.lateStores }], guard := none }) (v := ?_) rfl (by kernel_rfl) (by kernel_rfl) (by kernel_rfl) (fun _ _ _ h => h) (Or.inl ⟨by rfl, ?_⟩) (by assumption) ?_
    rotate_left
    · (intro w hSw; (try dsimp only at hSw); go_simp); (try with_reducible rfl)
    try simp only [Act.put, List.setIfInBounds_toArray, List.set_cons_zero, List.set_cons_succ]
    refine wpAnyH_take (i := 5) (oi := { dst := some 17, op := Op.move (Operand.tmp 5), type := 3, pos := "flow.go:135", after := #[{ on := 11, ground := Ground.gcOnly Departure.lateStores }], guard := none }) (v := ?_) rfl (by kernel_rfl) (by kernel_rfl) (by kernel_rfl) (fun _ _ _ h => h) (Or.inl ⟨by rfl, ?_⟩) (by assumption) ?_
    rotate_left
    · (intro w hSw; (try dsimp only at hSw); go_simp); (try with_reducible rfl)
    try simp only [Act.put, List.setIfInBounds_toArray, List.set_cons_zero, List.set_cons_succ]
    refine wpAnyH_take (i := 6) (oi := { dst := some 18, op := Op.binOp BinOp.add 3 (Operand.tmp 17) (Operand.const (Value.int IntKind.i64 1)) 3, type := 3, pos := "flow.go:135", after := #[{ on := 5, ground := Ground.data }, { on := 11, ground := Ground.gcOnly Departure.lateStores }], guard := none }) (v := ?_) rfl (by kernel_rfl) (by kernel_rfl) (by kernel_rfl) (fun _ _ _ h => h) (Or.inl ⟨by rfl, ?_⟩) (by assumption) ?_
    rotate_left
    · (intro w hSw; (try dsimp only at hSw); go_simp); (try with_reducible rfl)
    try simp only [Act.put, List.setIfInBounds_toArray, List.set_cons_zero, List.set_cons_succ]
    refine wpAnyH_take (i := 7) (oi := { dst := some 19, op := Op.indexAddr 58 (Operand.tmp 16) (Operand.tmp 18), type := 0, pos := "flow.go:135", after := #[{ on := 4, ground := Ground.data }, { on := 6, ground := Ground.data }, { on := 11, ground := Ground.gcOnly Departure.lateStores }], guard := none }) (v := ?_) rfl (by kernel_rfl) (by kernel_rfl) (by kernel_rfl) (fun _ _ _ h => h) (Or.inl ⟨by rfl, ?_⟩) (by assumption) ?_
    rotate_left
    · (intro w hSw; (try dsimp only at hSw); go_simp); (try with_reducible rfl)
    try simp only [Act.put, List.setIfInBounds_toArray, List.set_cons_zero, List.set_cons_succ]
    refine wpAnyH_take (i := 8) (oi := { dst := some 20, op := Op.load 56 (Operand.tmp 19), type := 56, pos := "flow.go:135", after := #[{ on := 7, ground := Ground.data }, { on := 11, ground := Ground.gcOnly Departure.lateStores }], guard := none }) (v := ?_) rfl (by kernel_rfl) (by kernel_rfl) (by kernel_rfl) (fun _ _ _ h => h) (Or.inl ⟨by rfl, ?_⟩) (by assumption) ?_
    rotate_left
    · (intro w hSw; (try dsimp only at hSw); go_simp); (try with_reducible rfl)
    try simp only [Act.put, List.setIfInBounds_toArray, List.set_cons_zero, List.set_cons_succ]
    refine wpAnyH_ready (rs := [9, 10]) (by kernel_rfl) (by simp) ?_
    refine (AllReadyH.cons (o := { dst := some 6, op := Op.alloc 56, type := 0, pos := "flow.go:135", after := #[], guard := none }) rfl (fun K hK => ?_) (AllReadyH.cons (o := { dst := some 7, op := Op.alloc 56, type := 0, pos := "flow.go:135", after := #[], guard := none }) rfl (fun K hK => ?_) AllReadyH.nil))
    · go_simp
      obtain ⟨wz9, hwz⟩ : ∃ v, v = wzd.alloc (Obj.cells #[.int .i64 0, .int .i64 0] 56) := ⟨_, rfl⟩
      rw [← hwz]
      have hl : Below wzd.heap.size wzd wz9 := by rw [hwz]; exact below_new _ _
      have hbz9 := bthen hbzd hl
      obtain ⟨A, hA⟩ : ∃ A, A = wzd.heap.size := ⟨_, rfl⟩
      have iA : Blk wz9 A 56 [.int .i64 0, .int .i64 0] := by rw [hA, hwz]; exact Blk.new _ _ _
      rw [← hA]
      (try have hAB : A ≠ B := (by have := iB.lt; omega))
      have hAs : w1.heap.size ≤ A := by rw [hA]; exact (hbzd).size
      clear hA
      clear hwz
      clear hl
      refine hK.out _ _ ⟨cellb e0 hbz9, cellb e1 hbz9, cellb e2 hbz9, cellb e3 hbz9⟩ (fun hHeld1 => ?_)
      clear hK K hHeld0
      try simp only [Act.put, List.setIfInBounds_toArray, List.set_cons_zero, List.set_cons_succ]
      refine wpAnyH_ready (rs := [10]) (by kernel_rfl) (by simp) ?_
      refine (AllReadyH.cons (o := { dst := some 7, op := Op.alloc 56, type := 0, pos := "flow.go:135", after := #[], guard := none }) rfl (fun K hK => ?_) AllReadyH.nil)
      go_simp
      obtain ⟨wz10, hwz⟩ : ∃ v, v = wz9.alloc (Obj.cells #[.int .i64 0, .int .i64 0] 56) := ⟨_, rfl⟩
      rw [← hwz]
      have hl : Below wz9.heap.size wz9 wz10 := by rw [hwz]; exact below_new _ _
      have hbz10 := bthen hbz9 hl
      obtain ⟨B, hBe⟩ : ∃ B, B = wz9.heap.size := ⟨_, rfl⟩
      have iB : Blk wz10 B 56 [.int .i64 0, .int .i64 0] := by rw [hBe, hwz]; exact Blk.new _ _ _
      rw [← hBe]
      (try have hAB : A ≠ B := (by have := iA.lt; omega))
      have hBs : w1.heap.size ≤ B := by rw [hBe]; exact (hbz9).size
      clear hBe
      clear hwz
      have iA := iA.carry hl
      clear hl
      refine hK.out _ _ ⟨cellb e0 hbz10, cellb e1 hbz10, cellb e2 hbz10, cellb e3 hbz10⟩ (fun hHeld2 => ?_)
      clear hK K hHeld1
      try simp only [Act.put, List.setIfInBounds_toArray, List.set_cons_zero, List.set_cons_succ]
      refine wpAnyH_ready (rs := [11]) (by kernel_rfl) (by simp) ?_
      refine (AllReadyH.cons (o := { dst := none, op := Op.store 56 (Operand.tmp 6) (Operand.tmp 15), type := 0, pos := "flow.go:135", after := #[{ on := 9, ground := Ground.data }, { on := 3, ground := Ground.data }, { on := 0, ground := Ground.phase }, { on := 1, ground := Ground.phase }, { on := 2, ground := Ground.phase }, { on := 3, ground := Ground.phase }, { on := 4, ground := Ground.textOnly Departure.lateStores }, { on := 5, ground := Ground.textOnly Departure.lateStores }, { on := 6, ground := Ground.textOnly Departure.lateStores }, { on := 7, ground := Ground.textOnly Departure.lateStores }, { on := 8, ground := Ground.textOnly Departure.lateStores }, { on := 9, ground := Ground.phase }, { on := 10, ground := Ground.phase }], guard := none }) rfl (fun K hK => ?_) AllReadyH.nil)
      have q0 := iA.cell (j := 0) (v := .int .i64 0) rfl
      have q1 := iA.cell (j := 1) (v := .int .i64 0) rfl
      have f0 := iA.frozen 0
      have f1 := iA.frozen 1
      go_simp
      obtain ⟨wz11, hwz⟩ : ∃ v, v = (wz10.setCell ⟨A, 0, none⟩ (.int .i64 0)).setCell ⟨A, 1, none⟩ (.int .i64 P) := ⟨_, rfl⟩
      rw [← hwz]
      have hbz11 : Below w1.heap.size w1 wz11 := by rw [hwz]; exact (hbz10.setCell hAs _).setCell hAs _
      have iA := iA.set2 (.int .i64 0) (.int .i64 P)
      (try have iB := iB.other2 hAB.symm (.int .i64 0) (.int .i64 P))
      rw [← hwz] at iA
      (try rw [← hwz] at iB)
      clear q0 q1 f0 f1
      clear hwz
      refine hK.out _ _ ⟨cellb e0 hbz11, cellb e1 hbz11, cellb e2 hbz11, cellb e3 hbz11⟩ (fun hHeld3 => ?_)
      clear hK K hHeld2
      try simp only [Act.put, List.setIfInBounds_toArray, List.set_cons_zero, List.set_cons_succ]
      refine wpAnyH_ready (rs := [12]) (by kernel_rfl) (by simp) ?_
      refine (AllReadyH.cons (o := { dst := none, op := Op.store 56 (Operand.tmp 7) (Operand.tmp 20), type := 0, pos := "flow.go:135", after := #[{ on := 10, ground := Ground.data }, { on := 8, ground := Ground.data }, { on := 11, ground := Ground.chain }, { on := 0, ground := Ground.phase }, { on := 1, ground := Ground.phase }, { on := 2, ground := Ground.phase }, { on := 3, ground := Ground.phase }, { on := 4, ground := Ground.phase }, { on := 5, ground := Ground.phase }, { on := 6, ground := Ground.phase }, { on := 7, ground := Ground.phase }, { on := 8, ground := Ground.phase }, { on := 9, ground := Ground.phase }, { on := 10, ground := Ground.phase }, { on := 11, ground := Ground.phase }], guard := none }) rfl (fun K hK => ?_) AllReadyH.nil)
      have q0 := iB.cell (j := 0) (v := .int .i64 0) rfl
      have q1 := iB.cell (j := 1) (v := .int .i64 0) rfl
      have f0 := iB.frozen 0
      have f1 := iB.frozen 1
      go_simp
      obtain ⟨wz12, hwz⟩ : ∃ v, v = (wz11.setCell ⟨B, 0, none⟩ (.int .i64 V)).setCell ⟨B, 1, none⟩ (.int .i64 Q) := ⟨_, rfl⟩
      rw [← hwz]
      have hbz12 : Below w1.heap.size w1 wz12 := by rw [hwz]; exact (hbz11.setCell hBs _).setCell hBs _
      have iB := iB.set2 (.int .i64 V) (.int .i64 Q)
      (try have iA := iA.other2 hAB (.int .i64 V) (.int .i64 Q))
      rw [← hwz] at iB
      (try rw [← hwz] at iA)
      clear q0 q1 f0 f1
      clear hwz
      refine hK.out _ _ ⟨cellb e0 hbz12, cellb e1 hbz12, cellb e2 hbz12, cellb e3 hbz12⟩ (fun hHeld4 => ?_)
      clear hK K hHeld3
      try simp only [Act.put, List.setIfInBounds_toArray, List.set_cons_zero, List.set_cons_succ]
      refine wpAnyH_done (by kernel_rfl) ?_ _
      clear hHeld4
      go_wp2_with fail
      go_meet
      exact ⟨A, B, rfl, rfl, iA, iB, hbz12⟩
    · go_simp
      obtain ⟨wz10, hwz⟩ : ∃ v, v = wzd.alloc (Obj.cells #[.int .i64 0, .int .i64 0] 56) := ⟨_, rfl⟩
      rw [← hwz]
      have hl : Below wzd.heap.size wzd wz10 := by rw [hwz]; exact below_new _ _
      have hbz10 := bthen hbzd hl
      obtain ⟨B, hBe⟩ : ∃ B, B = wzd.heap.size := ⟨_, rfl⟩
      have iB : Blk wz10 B 56 [.int .i64 0, .int .i64 0] := by rw [hBe, hwz]; exact Blk.new _ _ _
      rw [← hBe]
      (try have hAB : A ≠ B := (by have := iA.lt; omega))
      have hBs : w1.heap.size ≤ B := by rw [hBe]; exact (hbzd).size
      clear hBe
      clear hwz
      clear hl
      refine hK.out _ _ ⟨cellb e0 hbz10, cellb e1 hbz10, cellb e2 hbz10, cellb e3 hbz10⟩ (fun hHeld1 => ?_)
      clear hK K hHeld0
      try simp only [Act.put, List.setIfInBounds_toArray, List.set_cons_zero, List.set_cons_succ]
      refine wpAnyH_ready (rs := [9]) (by kernel_rfl) (by simp) ?_
      refine (AllReadyH.cons (o := { dst := some 6, op := Op.alloc 56, type := 0, pos := "flow.go:135", after := #[], guard := none }) rfl (fun K hK => ?_) AllReadyH.nil)
      go_simp
      obtain ⟨wz9, hwz⟩ : ∃ v, v = wz10.alloc (Obj.cells #[.int .i64 0, .int .i64 0] 56) := ⟨_, rfl⟩
      rw [← hwz]
      have hl : Below wz10.heap.size wz10 wz9 := by rw [hwz]; exact below_new _ _
      have hbz9 := bthen hbz10 hl
      obtain ⟨A, hA⟩ : ∃ A, A = wz10.heap.size := ⟨_, rfl⟩
      have iA : Blk wz9 A 56 [.int .i64 0, .int .i64 0] := by rw [hA, hwz]; exact Blk.new _ _ _
      rw [← hA]
      (try have hAB : A ≠ B := (by have := iB.lt; omega))
      have hAs : w1.heap.size ≤ A := by rw [hA]; exact (hbz10).size
      clear hA
      clear hwz
      have iB := iB.carry hl
      clear hl
      refine hK.out _ _ ⟨cellb e0 hbz9, cellb e1 hbz9, cellb e2 hbz9, cellb e3 hbz9⟩ (fun hHeld2 => ?_)
      clear hK K hHeld1
      try simp only [Act.put, List.setIfInBounds_toArray, List.set_cons_zero, List.set_cons_succ]
      refine wpAnyH_ready (rs := [11]) (by kernel_rfl) (by simp) ?_
      refine (AllReadyH.cons (o := { dst := none, op := Op.store 56 (Operand.tmp 6) (Operand.tmp 15), type := 0, pos := "flow.go:135", after := #[{ on := 9, ground := Ground.data }, { on := 3, ground := Ground.data }, { on := 0, ground := Ground.phase }, { on := 1, ground := Ground.phase }, { on := 2, ground := Ground.phase }, { on := 3, ground := Ground.phase }, { on := 4, ground := Ground.textOnly Departure.lateStores }, { on := 5, ground := Ground.textOnly Departure.lateStores }, { on := 6, ground := Ground.textOnly Departure.lateStores }, { on := 7, ground := Ground.textOnly Departure.lateStores }, { on := 8, ground := Ground.textOnly Departure.lateStores }, { on := 9, ground := Ground.phase }, { on := 10, ground := Ground.phase }], guard := none }) rfl (fun K hK => ?_) AllReadyH.nil)
      have q0 := iA.cell (j := 0) (v := .int .i64 0) rfl
      have q1 := iA.cell (j := 1) (v := .int .i64 0) rfl
      have f0 := iA.frozen 0
      have f1 := iA.frozen 1
      go_simp
      obtain ⟨wz11, hwz⟩ : ∃ v, v = (wz9.setCell ⟨A, 0, none⟩ (.int .i64 0)).setCell ⟨A, 1, none⟩ (.int .i64 P) := ⟨_, rfl⟩
      rw [← hwz]
      have hbz11 : Below w1.heap.size w1 wz11 := by rw [hwz]; exact (hbz9.setCell hAs _).setCell hAs _
      have iA := iA.set2 (.int .i64 0) (.int .i64 P)
      (try have iB := iB.other2 hAB.symm (.int .i64 0) (.int .i64 P))
      rw [← hwz] at iA
      (try rw [← hwz] at iB)
      clear q0 q1 f0 f1
      clear hwz
      refine hK.out _ _ ⟨cellb e0 hbz11, cellb e1 hbz11, cellb e2 hbz11, cellb e3 hbz11⟩ (fun hHeld3 => ?_)
      clear hK K hHeld2
      try simp only [Act.put, List.setIfInBounds_toArray, List.set_cons_zero, List.set_cons_succ]
      refine wpAnyH_ready (rs := [12]) (by kernel_rfl) (by simp) ?_
      refine (AllReadyH.cons (o := { dst := none, op := Op.store 56 (Operand.tmp 7) (Operand.tmp 20), type := 0, pos := "flow.go:135", after := #[{ on := 10, ground := Ground.data }, { on := 8, ground := Ground.data }, { on := 11, ground := Ground.chain }, { on := 0, ground := Ground.phase }, { on := 1, ground := Ground.phase }, { on := 2, ground := Ground.phase }, { on := 3, ground := Ground.phase }, { on := 4, ground := Ground.phase }, { on := 5, ground := Ground.phase }, { on := 6, ground := Ground.phase }, { on := 7, ground := Ground.phase }, { on := 8, ground := Ground.phase }, { on := 9, ground := Ground.phase }, { on := 10, ground := Ground.phase }, { on := 11, ground := Ground.phase }], guard := none }) rfl (fun K hK => ?_) AllReadyH.nil)
      have q0 := iB.cell (j := 0) (v := .int .i64 0) rfl
      have q1 := iB.cell (j := 1) (v := .int .i64 0) rfl
      have f0 := iB.frozen 0
      have f1 := iB.frozen 1
      go_simp
      obtain ⟨wz12, hwz⟩ : ∃ v, v = (wz11.setCell ⟨B, 0, none⟩ (.int .i64 V)).setCell ⟨B, 1, none⟩ (.int .i64 Q) := ⟨_, rfl⟩
      rw [← hwz]
      have hbz12 : Below w1.heap.size w1 wz12 := by rw [hwz]; exact (hbz11.setCell hBs _).setCell hBs _
      have iB := iB.set2 (.int .i64 V) (.int .i64 Q)
      (try have iA := iA.other2 hAB (.int .i64 V) (.int .i64 Q))
      rw [← hwz] at iB
      (try rw [← hwz] at iA)
      clear q0 q1 f0 f1
      clear hwz
      refine hK.out _ _ ⟨cellb e0 hbz12, cellb e1 hbz12, cellb e2 hbz12, cellb e3 hbz12⟩ (fun hHeld4 => ?_)
      clear hK K hHeld3
      try simp only [Act.put, List.setIfInBounds_toArray, List.set_cons_zero, List.set_cons_succ]
      refine wpAnyH_done (by kernel_rfl) ?_ _
      clear hHeld4
      go_wp2_with fail
      go_meet
      exact ⟨A, B, rfl, rfl, iA, iB, hbz12⟩
  case rest =>
    obtain ⟨A, B, rfl, rfl, iA, iB, hl⟩ := hcut
    obtain ⟨w2, rfl⟩ : ∃ v, v = wc := ⟨_, rfl⟩
    replace iR := iR.carry hl
    replace hB := bthen hB hl
    clear hl e0 e1 e2 e3
    have a0 := iA.cell (j := 0) (v := .int .i64 0) rfl
    have a1 := iA.cell (j := 1) (v := .int .i64 P) rfl
    have b0 := iB.cell (j := 0) (v := .int .i64 V) rfl
    have b1 := iB.cell (j := 1) (v := .int .i64 Q) rfl
    have r0 := iR.cell (j := 0) (v := .int .i64 0) rfl
    have r1 := iR.cell (j := 1) (v := .int .i64 0) rfl
    have f0 := iR.frozen 0
    have f1 := iR.frozen 1
    by_cases hnv : n = V
    · subst hnv
      have hRQ : R = Q := by
        have h1 := HR.out
        have h2 : n * R = n * Q := by rw [h1, Int.mul_comm P n, Int.mul_comm (Q - P) n, ← Int.mul_add]; congr 1; omega
        exact Int.eq_of_mul_eq_mul_left (by have := HV.out; omega) h2
      subst hRQ
      go_wp2_with fail
      have iR2 := iR.set2 (.int .i64 R) (.int .i64 1)
      have y0 := iR2.cell (j := 0) (v := .int .i64 R) rfl
      have y1 := iR2.cell (j := 1) (v := .int .i64 1) rfl
      exact bodyPost_ret (v := .agg #[.int .i64 R, .int .i64 1]) (by simp [results, Try.f84, go_sem, y0, y1]) rfl ⟨rfl, (hB.setCell (Nat.le_refl _) _).setCell (Nat.le_refl _) _⟩
    · have hnv2 : (V == n) = false := by rw [beq_eq_false_iff_ne]; exact fun h => hnv h.symm
      have hnv3 : ¬ V = n := fun h => hnv h.symm
      go_wp2_with fail
      have e1 : wrap64 V = V := by unfold wrap64; have := HV.out; omega
      have e4 := mulb (x := V) (y := R) (A := 1000) (B := 1000) (by have := HV.out; omega) (by have := HRB.out; omega)
      have e2 : wrap64 (wrap64 (P * wrap64 V) + wrap64 (wrap64 (Q - P) * wrap64 n)) = V * R := by
        have b1 := mulb (x := P) (y := V) (A := 1000) (B := 1000) (by have := HP.out; omega) (by have := HV.out; omega)
        have b2 := mulb (x := Q - P) (y := n) (A := 2000) (B := 1000) (by have := HP.out; have := HQ.out; omega) (by have := HV.out; have := HN.out; omega)
        rw [e1, show wrap64 (Q - P) = Q - P by unfold wrap64; have := HP.out; have := HQ.out; omega, show wrap64 n = n by unfold wrap64; have := HV.out; have := HN.out; omega, HR.out]
        generalize P * V = x at b1
        generalize (Q - P) * n = y at b2
        unfold wrap64; omega
      rw [e2, e1]
      clear a0 a1 b0 b1 r0 r1 f0 f1 hnv2 hnv3
      refine (lowest_any (V * R) V R w2 (by have := HV.out; omega) (by omega) rfl (by have := HRB.out; omega)).mono ?_
      rintro e w3 ⟨rfl, hl⟩
      replace iR := iR.carry hl
      replace hB := bthen hB hl
      clear hl e1 e2 e4
      have r0 := iR.cell (j := 0) (v := .int .i64 0) rfl
      have r1 := iR.cell (j := 1) (v := .int .i64 0) rfl
      have f0 := iR.frozen 0
      have f1 := iR.frozen 1
      go_wp2_with fail
      have iR2 := iR.set2 (.int .i64 R) (.int .i64 1)
      have y0 := iR2.cell (j := 0) (v := .int .i64 R) rfl
      have y1 := iR2.cell (j := 1) (v := .int .i64 1) rfl
      exact bodyPost_ret (v := .agg #[.int .i64 R, .int .i64 1]) (by simp [results, Try.f84, go_sem, y0, y1]) rfl ⟨rfl, (hB.setCell (Nat.le_refl _) _).setCell (Nat.le_refl _) _⟩

set_option maxRecDepth 100000 in
set_option maxHeartbeats 2000000 in
theorem CheckLine_any (v : Value) (V P Q : Int) (w : World) (h : LineIs w v V P Q) (hV : 1 ≤ V ∧ V ≤ 1000) (hP : -1000 ≤ P ∧ P ≤ 1000) (hQ : -1000 ≤ Q ∧ Q ≤ 1000) (hPQ : Q < P) :
    Calls Try.prog 63 #[v] w fun r w' => r = .returned (.int .i64 0) ∧ Below w.heap.size w w' := by
  have HH := Lib.hid h
  have k1 : IntKind.i64.wrap 1 = 1 := IntWalk.i64_in _ (by omega)
  have k0 : IntKind.i64.wrap 0 = 0 := IntWalk.i64_in _ (by omega)
  have w1e : withinE 0 0 1000 = 0 := by decide
  have w2e : withinE V 0 1000 = 0 := by rw [withinE, if_neg (by omega)]
  have w3e : withinE P (-1000) 1000 = 0 := by rw [withinE, if_neg (by omega)]
  have w4e : withinE Q (-1000) 1000 = 0 := by rw [withinE, if_neg (by omega)]
  have W1E := Lib.hid w1e
  have W2E := Lib.hid w2e
  have W3E := Lib.hid w3e
  have W4E := Lib.hid w4e
  have c1 : ¬ V ≤ 0 := by omega
  have c2 : ¬ P ≤ Q := by omega
  have c3 : decide (V ≤ 0) = false := decide_eq_false c1
  have c4 : decide (P ≤ Q) = false := decide_eq_false c2
  obtain ⟨b, off, cap, rfl, hcap, _⟩ := id h
  clear hV hP hQ hPQ h w1e w2e w3e w4e
  go_enter Try.func63, Try.ntmps63
  go_wp2_with fail
  refine (whenF_any _ _ _).mono ?_
  rintro e w' ⟨rfl, rfl⟩
  go_wp2_with fail
  refine (whenF_any _ _ _).mono ?_
  rintro e w' ⟨rfl, rfl⟩
  go_wp2_with fail
  refine (first2F _ _ _ _).mono ?_
  rintro e w' ⟨rfl, rfl⟩
  rw [show firstE [whenE false 16, whenE false 5] = 0 from by decide]
  obtain ⟨w1, hw1⟩ : ∃ v, v = w.alloc (Obj.cells #[Value.int IntKind.i64 (whenE false 16), Value.int IntKind.i64 (whenE false 5)] 36) := ⟨_, rfl⟩
  rw [← hw1]
  have hB : Below w.heap.size w w1 := by rw [hw1]; exact below_new _ _
  clear hw1
  go_wp2
  go_loopw [22] (fun v22 wr => ∃ k : Nat, k ≤ 2 ∧ v22 = .int .i64 k ∧ Below w1.heap.size w1 wr) (fun v22 _ => 2 - (intOf v22).toNat)
  case atStart => exact ⟨0, by omega, rfl, Below.refl _ _⟩
  case round =>
    obtain ⟨k, hk, rfl, hbr⟩ := hrel
    obtain ⟨b', off', cap', e, _, e0, e1, e2, e3⟩ := HH.out.carry (bthen hB hbr)
    cases e
    obtain rfl | rfl | rfl : k = 0 ∨ k = 1 ∨ k = 2 := by omega
    · go_upto_region 7 with fail
      obtain ⟨X1, hX1⟩ : ∃ v, v = World.alloc wr (Obj.cells #[.int .i64 0, .int .i64 P] 56) := ⟨_, rfl⟩
      have kX1 : Below wr.heap.size wr X1 := by rw [hX1]; exact below_new _ _
      have iX1 : Blk X1 (wr.heap.size) 56 [.int .i64 0, .int .i64 P] := by rw [hX1]; exact Blk.new _ _ _
      have sX1 : X1.heap.size = wr.heap.size + 1 := by rw [hX1]; simp
      rw [← hX1]
      clear hX1
      clear sX1
      replace e0 := cellb e0 kX1
      replace e1 := cellb e1 kX1
      replace e2 := cellb e2 kX1
      replace e3 := cellb e3 kX1
      have hbr1 := bthen hbr kX1
      generalize wr.heap.size = G at iX1 ⊢
      have p0 := iX1.cell (j := 0) (v := .int .i64 0) rfl
      have p1 := iX1.cell (j := 1) (v := .int .i64 P) rfl
      clear kX1
      go_cut [6] from 27 to 34 (fun v6 wn => v6 = .int .i64 0 ∧ Below X1.heap.size X1 wn)
      case first =>
        refine wp_region_held_drew (S := (fun w' => w'.cell? ⟨G, 0, none⟩ = some (.int .i64 0) ∧ w'.cell? ⟨G, 1, none⟩ = some (.int .i64 P))) (by kernel_rfl) ⟨cellb p0 (Below.refl _ _).drew, cellb p1 (Below.refl _ _).drew⟩ (fun hHeld0 => ?_)
        obtain ⟨wzd, hwz⟩ : ∃ v, v = X1.drew := ⟨_, rfl⟩
        rw [← hwz] at hHeld0 ⊢
        have hbzd : Below X1.heap.size X1 wzd := by rw [hwz]; exact (Below.refl _ _).drew
        have hlzd : Below X1.heap.size X1 wzd := by rw [hwz]; exact (Below.refl _ _).drew
        clear hwz hlzd
        refine wpAnyH_take (i := 0) (oi := { dst := some 27, op := Op.fieldAddr 56 (Operand.tmp 5) 0, type := 0, pos := "flow.go:80", after := #[], guard := none }) (v := ?_) rfl (by kernel_rfl) (by kernel_rfl) (by kernel_rfl) (fun _ _ _ h => h) (Or.inl ⟨by rfl, ?_⟩) (by assumption) ?_
        rotate_left
        · (intro w hSw; (try dsimp only at hSw); go_simp); (try with_reducible rfl)
        try simp only [Act.put, List.setIfInBounds_toArray, List.set_cons_zero, List.set_cons_succ]
        refine wpAnyH_take (i := 1) (oi := { dst := some 28, op := Op.load 3 (Operand.tmp 27), type := 3, pos := "flow.go:80", after := #[{ on := 0, ground := Ground.data }], guard := none }) (v := ?_) rfl (by kernel_rfl) (by kernel_rfl) (by kernel_rfl) (fun _ _ _ h => h) (Or.inl ⟨by rfl, ?_⟩) (by assumption) ?_
        rotate_left
        · (intro w hSw; (try dsimp only at hSw); go_simp); (try with_reducible rfl)
        try simp only [Act.put, List.setIfInBounds_toArray, List.set_cons_zero, List.set_cons_succ]
        refine wpAnyH_take (i := 3) (oi := { dst := some 30, op := Op.fieldAddr 56 (Operand.tmp 5) 1, type := 0, pos := "flow.go:80", after := #[], guard := none }) (v := ?_) rfl (by kernel_rfl) (by kernel_rfl) (by kernel_rfl) (fun _ _ _ h => h) (Or.inl ⟨by rfl, ?_⟩) (by assumption) ?_
        rotate_left
        · (intro w hSw; (try dsimp only at hSw); go_simp); (try with_reducible rfl)
        try simp only [Act.put, List.setIfInBounds_toArray, List.set_cons_zero, List.set_cons_succ]
        refine wpAnyH_take (i := 4) (oi := { dst := some 31, op := Op.load 3 (Operand.tmp 30), type := 3, pos := "flow.go:80", after := #[{ on := 3, ground := Ground.data }], guard := none }) (v := ?_) rfl (by kernel_rfl) (by kernel_rfl) (by kernel_rfl) (fun _ _ _ h => h) (Or.inl ⟨by rfl, ?_⟩) (by assumption) ?_
        rotate_left
        · (intro w hSw; (try dsimp only at hSw); go_simp); (try with_reducible rfl)
        try simp only [Act.put, List.setIfInBounds_toArray, List.set_cons_zero, List.set_cons_succ]
        refine wpAnyH_ready (rs := [2]) (by kernel_rfl) (by simp) ?_
        refine (AllReadyH.cons (o := { dst := some 29, op := Op.call { callee := Callee.value (Operand.func 30), args := #[Operand.tmp 28, Operand.const (Value.int IntKind.i64 0), Operand.const (Value.int IntKind.i64 1000)], argTypes := #[3, 3, 3] }, type := 36, pos := "flow.go:80", after := #[{ on := 1, ground := Ground.data }], guard := none }) rfl (fun K hK => ?_) AllReadyH.nil)
        go_simp
        refine (withinF_any 0 0 1000 wzd).mono ?_
        rintro e w' ⟨rfl, rfl⟩
        rw [W1E.out]
        (try go_wp2_with fail)
        refine hK.out _ _ ⟨cellb p0 hbzd, cellb p1 hbzd⟩ (fun hHeld1 => ?_)
        clear hK K hHeld0
        try simp only [Act.put, List.setIfInBounds_toArray, List.set_cons_zero, List.set_cons_succ]
        refine wpAnyH_ready (rs := [5]) (by kernel_rfl) (by simp) ?_
        refine (AllReadyH.cons (o := { dst := some 32, op := Op.call { callee := Callee.value (Operand.func 27), args := #[Operand.tmp 31], argTypes := #[3] }, type := 36, pos := "flow.go:80", after := #[{ on := 4, ground := Ground.data }, { on := 2, ground := Ground.chain }], guard := none }) rfl (fun K hK => ?_) AllReadyH.nil)
        go_simp
        refine (checkPower_any P wzd).mono ?_
        rintro e w' ⟨rfl, rfl⟩
        rw [W3E.out]
        (try go_wp2_with fail)
        refine hK.out _ _ ⟨cellb p0 hbzd, cellb p1 hbzd⟩ (fun hHeld2 => ?_)
        clear hK K hHeld1
        try simp only [Act.put, List.setIfInBounds_toArray, List.set_cons_zero, List.set_cons_succ]
        refine wpAnyH_ready (rs := [6]) (by kernel_rfl) (by simp) ?_
        refine (AllReadyH.cons (o := { dst := some 33, op := Op.buildSlice 82 2 #[(0, Operand.tmp 29), (1, Operand.tmp 32)], type := 82, pos := "flow.go:80", after := #[{ on := 2, ground := Ground.data }, { on := 5, ground := Ground.data }], guard := none }) rfl (fun K hK => ?_) AllReadyH.nil)
        go_simp
        obtain ⟨wz6, hwz⟩ : ∃ v, v = wzd.alloc (Obj.cells #[.int .i64 0, .int .i64 0] 36) := ⟨_, rfl⟩
        rw [← hwz]
        have hl : Below wzd.heap.size wzd wz6 := by rw [hwz]; exact below_new _ _
        have hbz6 := bthen hbzd hl
        have j1 : BlkI wz6 wzd.heap.size 36 [0, 0] := by rw [hwz]; exact Blk.new _ _ _
        generalize wzd.heap.size = G1 at j1 ⊢
        clear hwz
        clear hl
        refine hK.out _ _ ⟨cellb p0 hbz6, cellb p1 hbz6⟩ (fun hHeld3 => ?_)
        clear hK K hHeld2
        try simp only [Act.put, List.setIfInBounds_toArray, List.set_cons_zero, List.set_cons_succ]
        refine wpAnyH_ready (rs := [7]) (by kernel_rfl) (by simp) ?_
        refine (AllReadyH.cons (o := { dst := some 34, op := Op.call { callee := Callee.value (Operand.func 19), args := #[Operand.tmp 33], argTypes := #[82] }, type := 36, pos := "flow.go:80", after := #[{ on := 6, ground := Ground.data }, { on := 5, ground := Ground.chain }], guard := none }) rfl (fun K hK => ?_) AllReadyH.nil)
        go_simp
        refine (firstF_any _ [0, 0] wz6 (by simp [maxLen]) (BlkI.ints j1 rfl)).mono ?_
        rintro e w' ⟨rfl, rfl⟩
        rw [show firstE [0, 0] = 0 from rfl]
        (try go_wp2_with fail)
        refine hK.out _ _ ⟨cellb p0 hbz6, cellb p1 hbz6⟩ (fun hHeld4 => ?_)
        clear hK K hHeld3
        try simp only [Act.put, List.setIfInBounds_toArray, List.set_cons_zero, List.set_cons_succ]
        refine wpAnyH_take (i := 8) (oi := { dst := some 6, op := Op.assign (Operand.tmp 34), type := 36, pos := "flow.go:80", after := #[{ on := 7, ground := Ground.data }, { on := 7, ground := Ground.chain }, { on := 0, ground := Ground.phase }, { on := 1, ground := Ground.phase }, { on := 2, ground := Ground.phase }, { on := 3, ground := Ground.phase }, { on := 4, ground := Ground.phase }, { on := 5, ground := Ground.phase }, { on := 6, ground := Ground.phase }, { on := 7, ground := Ground.phase }], guard := none }) (v := ?_) rfl (by kernel_rfl) (by kernel_rfl) (by kernel_rfl) (fun _ _ _ h => h) (Or.inl ⟨by rfl, ?_⟩) (by assumption) ?_
        rotate_left
        · (intro w hSw; (try dsimp only at hSw); go_simp); (try with_reducible rfl)
        try simp only [Act.put, List.setIfInBounds_toArray, List.set_cons_zero, List.set_cons_succ]
        refine wpAnyH_done (by kernel_rfl) ?_ _
        clear hHeld4
        go_wp2_with fail
        go_meet
        exact ⟨rfl, hbz6⟩
      case rest =>
        obtain ⟨rfl, hl⟩ := hcut
        obtain ⟨X2, rfl⟩ : ∃ v, v = wc := ⟨_, rfl⟩
        replace e0 := cellb e0 hl
        replace e1 := cellb e1 hl
        replace p0 := cellb p0 hl
        replace p1 := cellb p1 hl
        replace hbr1 := bthen hbr1 hl
        clear hl e2 e3
        go_upto_region 10 with fail
        refine wp_region_held_drew (S := (fun w' => w'.cell? ⟨G, 0, none⟩ = some (.int .i64 0) ∧ w'.cell? ⟨G, 1, none⟩ = some (.int .i64 P))) (by kernel_rfl) ⟨cellb p0 (Below.refl _ _).drew, cellb p1 (Below.refl _ _).drew⟩ (fun hHeld0 => ?_)
        obtain ⟨wzd, hwz⟩ : ∃ v, v = X2.drew := ⟨_, rfl⟩
        rw [← hwz] at hHeld0 ⊢
        have hbzd : Below X2.heap.size X2 wzd := by rw [hwz]; exact (Below.refl _ _).drew
        have hlzd : Below X2.heap.size X2 wzd := by rw [hwz]; exact (Below.refl _ _).drew
        clear hwz hlzd
        refine wpAnyH_take (i := 0) (oi := { dst := some 38, op := Op.move (Operand.tmp 4), type := 3, pos := "flow.go:83", after := #[], guard := none }) (v := ?_) rfl (by kernel_rfl) (by kernel_rfl) (by kernel_rfl) (fun _ _ _ h => h) (Or.inl ⟨by rfl, ?_⟩) (by assumption) ?_
        rotate_left
        · (intro w hSw; (try dsimp only at hSw); go_simp); (try with_reducible rfl)
        try simp only [Act.put, List.setIfInBounds_toArray, List.set_cons_zero, List.set_cons_succ]
        refine wpAnyH_take (i := 1) (oi := { dst := some 39, op := Op.binOp BinOp.gtr 3 (Operand.tmp 38) (Operand.const (Value.int IntKind.i64 0)) 3, type := 4, pos := "flow.go:83", after := #[{ on := 0, ground := Ground.data }], guard := none }) (v := ?_) rfl (by kernel_rfl) (by kernel_rfl) (by kernel_rfl) (fun _ _ _ h => h) (Or.inl ⟨by rfl, ?_⟩) (by assumption) ?_
        rotate_left
        · (intro w hSw; (try dsimp only at hSw); go_simp); (try with_reducible rfl)
        try simp only [Act.put, List.setIfInBounds_toArray, List.set_cons_zero, List.set_cons_succ]
        refine wpAnyH_take (i := 2) (oi := { dst := some 40, op := Op.move (Operand.tmp 39), type := 4, pos := "flow.go:83", after := #[{ on := 1, ground := Ground.data }], guard := none }) (v := ?_) rfl (by kernel_rfl) (by kernel_rfl) (by kernel_rfl) (fun _ _ _ h => h) (Or.inl ⟨by rfl, ?_⟩) (by assumption) ?_
        rotate_left
        · (intro w hSw; (try dsimp only at hSw); go_simp); (try with_reducible rfl)
        try simp only [Act.put, List.setIfInBounds_toArray, List.set_cons_zero, List.set_cons_succ]
        refine wpAnyH_take (i := 3) (oi := { dst := some 41, op := Op.fieldAddr 56 (Operand.tmp 5) 0, type := 0, pos := "flow.go:83", after := #[{ on := 2, ground := Ground.guard }], guard := some (2, true) }) (v := undef) rfl (by kernel_rfl) (by kernel_rfl) (by kernel_rfl) (fun _ _ _ h => h) (Or.inr ⟨by rfl, rfl⟩) (by assumption) ?_
        try simp only [Act.put, List.setIfInBounds_toArray, List.set_cons_zero, List.set_cons_succ]
        refine wpAnyH_take (i := 4) (oi := { dst := some 42, op := Op.load 3 (Operand.tmp 41), type := 3, pos := "flow.go:83", after := #[{ on := 3, ground := Ground.data }, { on := 2, ground := Ground.guard }], guard := some (2, true) }) (v := undef) rfl (by kernel_rfl) (by kernel_rfl) (by kernel_rfl) (fun _ _ _ h => h) (Or.inr ⟨by rfl, rfl⟩) (by assumption) ?_
        try simp only [Act.put, List.setIfInBounds_toArray, List.set_cons_zero, List.set_cons_succ]
        refine wpAnyH_take (i := 5) (oi := { dst := some 43, op := Op.move (Operand.tmp 0), type := 58, pos := "flow.go:83", after := #[{ on := 2, ground := Ground.guard }], guard := some (2, true) }) (v := undef) rfl (by kernel_rfl) (by kernel_rfl) (by kernel_rfl) (fun _ _ _ h => h) (Or.inr ⟨by rfl, rfl⟩) (by assumption) ?_
        try simp only [Act.put, List.setIfInBounds_toArray, List.set_cons_zero, List.set_cons_succ]
        refine wpAnyH_take (i := 6) (oi := { dst := some 44, op := Op.move (Operand.tmp 4), type := 3, pos := "flow.go:83", after := #[{ on := 2, ground := Ground.guard }], guard := some (2, true) }) (v := undef) rfl (by kernel_rfl) (by kernel_rfl) (by kernel_rfl) (fun _ _ _ h => h) (Or.inr ⟨by rfl, rfl⟩) (by assumption) ?_
        try simp only [Act.put, List.setIfInBounds_toArray, List.set_cons_zero, List.set_cons_succ]
        refine wpAnyH_take (i := 7) (oi := { dst := some 45, op := Op.binOp BinOp.sub 3 (Operand.tmp 44) (Operand.const (Value.int IntKind.i64 1)) 3, type := 3, pos := "flow.go:83", after := #[{ on := 6, ground := Ground.data }, { on := 2, ground := Ground.guard }], guard := some (2, true) }) (v := undef) rfl (by kernel_rfl) (by kernel_rfl) (by kernel_rfl) (fun _ _ _ h => h) (Or.inr ⟨by rfl, rfl⟩) (by assumption) ?_
        try simp only [Act.put, List.setIfInBounds_toArray, List.set_cons_zero, List.set_cons_succ]
        refine wpAnyH_take (i := 8) (oi := { dst := some 46, op := Op.indexAddr 58 (Operand.tmp 43) (Operand.tmp 45), type := 0, pos := "flow.go:83", after := #[{ on := 5, ground := Ground.data }, { on := 7, ground := Ground.data }, { on := 2, ground := Ground.guard }], guard := some (2, true) }) (v := undef) rfl (by kernel_rfl) (by kernel_rfl) (by kernel_rfl) (fun _ _ _ h => h) (Or.inr ⟨by rfl, rfl⟩) (by assumption) ?_
        try simp only [Act.put, List.setIfInBounds_toArray, List.set_cons_zero, List.set_cons_succ]
        refine wpAnyH_take (i := 9) (oi := { dst := some 47, op := Op.fieldAddr 56 (Operand.tmp 46) 0, type := 0, pos := "flow.go:83", after := #[{ on := 8, ground := Ground.data }, { on := 2, ground := Ground.guard }], guard := some (2, true) }) (v := undef) rfl (by kernel_rfl) (by kernel_rfl) (by kernel_rfl) (fun _ _ _ h => h) (Or.inr ⟨by rfl, rfl⟩) (by assumption) ?_
        try simp only [Act.put, List.setIfInBounds_toArray, List.set_cons_zero, List.set_cons_succ]
        refine wpAnyH_take (i := 10) (oi := { dst := some 48, op := Op.load 3 (Operand.tmp 47), type := 3, pos := "flow.go:83", after := #[{ on := 9, ground := Ground.data }, { on := 2, ground := Ground.guard }], guard := some (2, true) }) (v := undef) rfl (by kernel_rfl) (by kernel_rfl) (by kernel_rfl) (fun _ _ _ h => h) (Or.inr ⟨by rfl, rfl⟩) (by assumption) ?_
        try simp only [Act.put, List.setIfInBounds_toArray, List.set_cons_zero, List.set_cons_succ]
        refine wpAnyH_take (i := 11) (oi := { dst := some 49, op := Op.binOp BinOp.leq 3 (Operand.tmp 42) (Operand.tmp 48) 3, type := 4, pos := "flow.go:83", after := #[{ on := 4, ground := Ground.data }, { on := 10, ground := Ground.data }, { on := 2, ground := Ground.guard }], guard := some (2, true) }) (v := undef) rfl (by kernel_rfl) (by kernel_rfl) (by kernel_rfl) (fun _ _ _ h => h) (Or.inr ⟨by rfl, rfl⟩) (by assumption) ?_
        try simp only [Act.put, List.setIfInBounds_toArray, List.set_cons_zero, List.set_cons_succ]
        refine wpAnyH_take (i := 12) (oi := { dst := some 50, op := Op.move (Operand.tmp 49), type := 4, pos := "flow.go:83", after := #[{ on := 11, ground := Ground.data }, { on := 2, ground := Ground.chain }, { on := 2, ground := Ground.guard }], guard := some (2, true) }) (v := undef) rfl (by kernel_rfl) (by kernel_rfl) (by kernel_rfl) (fun _ _ _ h => h) (Or.inr ⟨by rfl, rfl⟩) (by assumption) ?_
        try simp only [Act.put, List.setIfInBounds_toArray, List.set_cons_zero, List.set_cons_succ]
        refine wpAnyH_take (i := 13) (oi := { dst := some 51, op := Op.fieldAddr 56 (Operand.tmp 5) 1, type := 0, pos := "flow.go:83", after := #[{ on := 12, ground := Ground.guard }], guard := some (12, false) }) (v := undef) rfl (by kernel_rfl) (by kernel_rfl) (by kernel_rfl) (fun _ _ _ h => h) (Or.inr ⟨by rfl, rfl⟩) (by assumption) ?_
        try simp only [Act.put, List.setIfInBounds_toArray, List.set_cons_zero, List.set_cons_succ]
        refine wpAnyH_take (i := 14) (oi := { dst := some 52, op := Op.load 3 (Operand.tmp 51), type := 3, pos := "flow.go:83", after := #[{ on := 13, ground := Ground.data }, { on := 12, ground := Ground.guard }], guard := some (12, false) }) (v := undef) rfl (by kernel_rfl) (by kernel_rfl) (by kernel_rfl) (fun _ _ _ h => h) (Or.inr ⟨by rfl, rfl⟩) (by assumption) ?_
        try simp only [Act.put, List.setIfInBounds_toArray, List.set_cons_zero, List.set_cons_succ]
        refine wpAnyH_take (i := 15) (oi := { dst := some 53, op := Op.move (Operand.tmp 0), type := 58, pos := "flow.go:83", after := #[{ on := 12, ground := Ground.guard }], guard := some (12, false) }) (v := undef) rfl (by kernel_rfl) (by kernel_rfl) (by kernel_rfl) (fun _ _ _ h => h) (Or.inr ⟨by rfl, rfl⟩) (by assumption) ?_
        try simp only [Act.put, List.setIfInBounds_toArray, List.set_cons_zero, List.set_cons_succ]
        refine wpAnyH_take (i := 16) (oi := { dst := some 54, op := Op.move (Operand.tmp 4), type := 3, pos := "flow.go:83", after := #[{ on := 12, ground := Ground.guard }], guard := some (12, false) }) (v := undef) rfl (by kernel_rfl) (by kernel_rfl) (by kernel_rfl) (fun _ _ _ h => h) (Or.inr ⟨by rfl, rfl⟩) (by assumption) ?_
        try simp only [Act.put, List.setIfInBounds_toArray, List.set_cons_zero, List.set_cons_succ]
        refine wpAnyH_take (i := 17) (oi := { dst := some 55, op := Op.binOp BinOp.sub 3 (Operand.tmp 54) (Operand.const (Value.int IntKind.i64 1)) 3, type := 3, pos := "flow.go:83", after := #[{ on := 16, ground := Ground.data }, { on := 12, ground := Ground.guard }], guard := some (12, false) }) (v := undef) rfl (by kernel_rfl) (by kernel_rfl) (by kernel_rfl) (fun _ _ _ h => h) (Or.inr ⟨by rfl, rfl⟩) (by assumption) ?_
        try simp only [Act.put, List.setIfInBounds_toArray, List.set_cons_zero, List.set_cons_succ]
        refine wpAnyH_take (i := 18) (oi := { dst := some 56, op := Op.indexAddr 58 (Operand.tmp 53) (Operand.tmp 55), type := 0, pos := "flow.go:83", after := #[{ on := 15, ground := Ground.data }, { on := 17, ground := Ground.data }, { on := 12, ground := Ground.guard }], guard := some (12, false) }) (v := undef) rfl (by kernel_rfl) (by kernel_rfl) (by kernel_rfl) (fun _ _ _ h => h) (Or.inr ⟨by rfl, rfl⟩) (by assumption) ?_
        try simp only [Act.put, List.setIfInBounds_toArray, List.set_cons_zero, List.set_cons_succ]
        refine wpAnyH_take (i := 19) (oi := { dst := some 57, op := Op.fieldAddr 56 (Operand.tmp 56) 1, type := 0, pos := "flow.go:83", after := #[{ on := 18, ground := Ground.data }, { on := 12, ground := Ground.guard }], guard := some (12, false) }) (v := undef) rfl (by kernel_rfl) (by kernel_rfl) (by kernel_rfl) (fun _ _ _ h => h) (Or.inr ⟨by rfl, rfl⟩) (by assumption) ?_
        try simp only [Act.put, List.setIfInBounds_toArray, List.set_cons_zero, List.set_cons_succ]
        refine wpAnyH_take (i := 20) (oi := { dst := some 58, op := Op.load 3 (Operand.tmp 57), type := 3, pos := "flow.go:83", after := #[{ on := 19, ground := Ground.data }, { on := 12, ground := Ground.guard }], guard := some (12, false) }) (v := undef) rfl (by kernel_rfl) (by kernel_rfl) (by kernel_rfl) (fun _ _ _ h => h) (Or.inr ⟨by rfl, rfl⟩) (by assumption) ?_
        try simp only [Act.put, List.setIfInBounds_toArray, List.set_cons_zero, List.set_cons_succ]
        refine wpAnyH_take (i := 21) (oi := { dst := some 59, op := Op.binOp BinOp.geq 3 (Operand.tmp 52) (Operand.tmp 58) 3, type := 4, pos := "flow.go:83", after := #[{ on := 14, ground := Ground.data }, { on := 20, ground := Ground.data }, { on := 12, ground := Ground.guard }], guard := some (12, false) }) (v := undef) rfl (by kernel_rfl) (by kernel_rfl) (by kernel_rfl) (fun _ _ _ h => h) (Or.inr ⟨by rfl, rfl⟩) (by assumption) ?_
        try simp only [Act.put, List.setIfInBounds_toArray, List.set_cons_zero, List.set_cons_succ]
        refine wpAnyH_take (i := 22) (oi := { dst := some 60, op := Op.pick (Operand.tmp 50) (Operand.const (Value.bool true)) (Operand.tmp 59), type := 4, pos := "flow.go:83", after := #[{ on := 12, ground := Ground.data }, { on := 21, ground := Ground.data }, { on := 2, ground := Ground.guard }], guard := some (2, true) }) (v := undef) rfl (by kernel_rfl) (by kernel_rfl) (by kernel_rfl) (fun _ _ _ h => h) (Or.inr ⟨by rfl, rfl⟩) (by assumption) ?_
        try simp only [Act.put, List.setIfInBounds_toArray, List.set_cons_zero, List.set_cons_succ]
        refine wpAnyH_take (i := 23) (oi := { dst := some 61, op := Op.pick (Operand.tmp 40) (Operand.tmp 60) (Operand.const (Value.bool false)), type := 4, pos := "flow.go:83", after := #[{ on := 2, ground := Ground.data }, { on := 22, ground := Ground.data }], guard := none }) (v := ?_) rfl (by kernel_rfl) (by kernel_rfl) (by kernel_rfl) (fun _ _ _ h => h) (Or.inl ⟨by rfl, ?_⟩) (by assumption) ?_
        rotate_left
        · (intro w hSw; (try dsimp only at hSw); go_simp); (try with_reducible rfl)
        try simp only [Act.put, List.setIfInBounds_toArray, List.set_cons_zero, List.set_cons_succ]
        refine wpAnyH_done (by kernel_rfl) ?_ _
        clear hHeld0
        replace hbr1 := bthen hbr1 hbzd
        go_wp2_with fail
        go_roundw
        case rel => exact ⟨1, by omega, rfl, hbr1⟩
        case measure => simp [intOf]
    · go_upto_region 7 with fail
      obtain ⟨X1, hX1⟩ : ∃ v, v = World.alloc wr (Obj.cells #[.int .i64 V, .int .i64 Q] 56) := ⟨_, rfl⟩
      have kX1 : Below wr.heap.size wr X1 := by rw [hX1]; exact below_new _ _
      have iX1 : Blk X1 (wr.heap.size) 56 [.int .i64 V, .int .i64 Q] := by rw [hX1]; exact Blk.new _ _ _
      have sX1 : X1.heap.size = wr.heap.size + 1 := by rw [hX1]; simp
      rw [← hX1]
      clear hX1
      clear sX1
      replace e0 := cellb e0 kX1
      replace e1 := cellb e1 kX1
      replace e2 := cellb e2 kX1
      replace e3 := cellb e3 kX1
      have hbr1 := bthen hbr kX1
      generalize wr.heap.size = G at iX1 ⊢
      have p0 := iX1.cell (j := 0) (v := .int .i64 V) rfl
      have p1 := iX1.cell (j := 1) (v := .int .i64 Q) rfl
      clear kX1
      go_cut [6] from 27 to 34 (fun v6 wn => v6 = .int .i64 0 ∧ Below X1.heap.size X1 wn)
      case first =>
        refine wp_region_held_drew (S := (fun w' => w'.cell? ⟨G, 0, none⟩ = some (.int .i64 V) ∧ w'.cell? ⟨G, 1, none⟩ = some (.int .i64 Q))) (by kernel_rfl) ⟨cellb p0 (Below.refl _ _).drew, cellb p1 (Below.refl _ _).drew⟩ (fun hHeld0 => ?_)
        obtain ⟨wzd, hwz⟩ : ∃ v, v = X1.drew := ⟨_, rfl⟩
        rw [← hwz] at hHeld0 ⊢
        have hbzd : Below X1.heap.size X1 wzd := by rw [hwz]; exact (Below.refl _ _).drew
        have hlzd : Below X1.heap.size X1 wzd := by rw [hwz]; exact (Below.refl _ _).drew
        clear hwz hlzd
        refine wpAnyH_take (i := 0) (oi := { dst := some 27, op := Op.fieldAddr 56 (Operand.tmp 5) 0, type := 0, pos := "flow.go:80", after := #[], guard := none }) (v := ?_) rfl (by kernel_rfl) (by kernel_rfl) (by kernel_rfl) (fun _ _ _ h => h) (Or.inl ⟨by rfl, ?_⟩) (by assumption) ?_
        rotate_left
        · (intro w hSw; (try dsimp only at hSw); go_simp); (try with_reducible rfl)
        try simp only [Act.put, List.setIfInBounds_toArray, List.set_cons_zero, List.set_cons_succ]
        refine wpAnyH_take (i := 1) (oi := { dst := some 28, op := Op.load 3 (Operand.tmp 27), type := 3, pos := "flow.go:80", after := #[{ on := 0, ground := Ground.data }], guard := none }) (v := ?_) rfl (by kernel_rfl) (by kernel_rfl) (by kernel_rfl) (fun _ _ _ h => h) (Or.inl ⟨by rfl, ?_⟩) (by assumption) ?_
        rotate_left
        · (intro w hSw; (try dsimp only at hSw); go_simp); (try with_reducible rfl)
        try simp only [Act.put, List.setIfInBounds_toArray, List.set_cons_zero, List.set_cons_succ]
        refine wpAnyH_take (i := 3) (oi := { dst := some 30, op := Op.fieldAddr 56 (Operand.tmp 5) 1, type := 0, pos := "flow.go:80", after := #[], guard := none }) (v := ?_) rfl (by kernel_rfl) (by kernel_rfl) (by kernel_rfl) (fun _ _ _ h => h) (Or.inl ⟨by rfl, ?_⟩) (by assumption) ?_
        rotate_left
        · (intro w hSw; (try dsimp only at hSw); go_simp); (try with_reducible rfl)
        try simp only [Act.put, List.setIfInBounds_toArray, List.set_cons_zero, List.set_cons_succ]
        refine wpAnyH_take (i := 4) (oi := { dst := some 31, op := Op.load 3 (Operand.tmp 30), type := 3, pos := "flow.go:80", after := #[{ on := 3, ground := Ground.data }], guard := none }) (v := ?_) rfl (by kernel_rfl) (by kernel_rfl) (by kernel_rfl) (fun _ _ _ h => h) (Or.inl ⟨by rfl, ?_⟩) (by assumption) ?_
        rotate_left
        · (intro w hSw; (try dsimp only at hSw); go_simp); (try with_reducible rfl)
        try simp only [Act.put, List.setIfInBounds_toArray, List.set_cons_zero, List.set_cons_succ]
        refine wpAnyH_ready (rs := [2]) (by kernel_rfl) (by simp) ?_
        refine (AllReadyH.cons (o := { dst := some 29, op := Op.call { callee := Callee.value (Operand.func 30), args := #[Operand.tmp 28, Operand.const (Value.int IntKind.i64 0), Operand.const (Value.int IntKind.i64 1000)], argTypes := #[3, 3, 3] }, type := 36, pos := "flow.go:80", after := #[{ on := 1, ground := Ground.data }], guard := none }) rfl (fun K hK => ?_) AllReadyH.nil)
        go_simp
        refine (withinF_any V 0 1000 wzd).mono ?_
        rintro e w' ⟨rfl, rfl⟩
        rw [W2E.out]
        (try go_wp2_with fail)
        refine hK.out _ _ ⟨cellb p0 hbzd, cellb p1 hbzd⟩ (fun hHeld1 => ?_)
        clear hK K hHeld0
        try simp only [Act.put, List.setIfInBounds_toArray, List.set_cons_zero, List.set_cons_succ]
        refine wpAnyH_ready (rs := [5]) (by kernel_rfl) (by simp) ?_
        refine (AllReadyH.cons (o := { dst := some 32, op := Op.call { callee := Callee.value (Operand.func 27), args := #[Operand.tmp 31], argTypes := #[3] }, type := 36, pos := "flow.go:80", after := #[{ on := 4, ground := Ground.data }, { on := 2, ground := Ground.chain }], guard := none }) rfl (fun K hK => ?_) AllReadyH.nil)
        go_simp
        refine (checkPower_any Q wzd).mono ?_
        rintro e w' ⟨rfl, rfl⟩
        rw [W4E.out]
        (try go_wp2_with fail)
        refine hK.out _ _ ⟨cellb p0 hbzd, cellb p1 hbzd⟩ (fun hHeld2 => ?_)
        clear hK K hHeld1
        try simp only [Act.put, List.setIfInBounds_toArray, List.set_cons_zero, List.set_cons_succ]
        refine wpAnyH_ready (rs := [6]) (by kernel_rfl) (by simp) ?_
        refine (AllReadyH.cons (o := { dst := some 33, op := Op.buildSlice 82 2 #[(0, Operand.tmp 29), (1, Operand.tmp 32)], type := 82, pos := "flow.go:80", after := #[{ on := 2, ground := Ground.data }, { on := 5, ground := Ground.data }], guard := none }) rfl (fun K hK => ?_) AllReadyH.nil)
        go_simp
        obtain ⟨wz6, hwz⟩ : ∃ v, v = wzd.alloc (Obj.cells #[.int .i64 0, .int .i64 0] 36) := ⟨_, rfl⟩
        rw [← hwz]
        have hl : Below wzd.heap.size wzd wz6 := by rw [hwz]; exact below_new _ _
        have hbz6 := bthen hbzd hl
        have j1 : BlkI wz6 wzd.heap.size 36 [0, 0] := by rw [hwz]; exact Blk.new _ _ _
        generalize wzd.heap.size = G1 at j1 ⊢
        clear hwz
        clear hl
        refine hK.out _ _ ⟨cellb p0 hbz6, cellb p1 hbz6⟩ (fun hHeld3 => ?_)
        clear hK K hHeld2
        try simp only [Act.put, List.setIfInBounds_toArray, List.set_cons_zero, List.set_cons_succ]
        refine wpAnyH_ready (rs := [7]) (by kernel_rfl) (by simp) ?_
        refine (AllReadyH.cons (o := { dst := some 34, op := Op.call { callee := Callee.value (Operand.func 19), args := #[Operand.tmp 33], argTypes := #[82] }, type := 36, pos := "flow.go:80", after := #[{ on := 6, ground := Ground.data }, { on := 5, ground := Ground.chain }], guard := none }) rfl (fun K hK => ?_) AllReadyH.nil)
        go_simp
        refine (firstF_any _ [0, 0] wz6 (by simp [maxLen]) (BlkI.ints j1 rfl)).mono ?_
        rintro e w' ⟨rfl, rfl⟩
        rw [show firstE [0, 0] = 0 from rfl]
        (try go_wp2_with fail)
        refine hK.out _ _ ⟨cellb p0 hbz6, cellb p1 hbz6⟩ (fun hHeld4 => ?_)
        clear hK K hHeld3
        try simp only [Act.put, List.setIfInBounds_toArray, List.set_cons_zero, List.set_cons_succ]
        refine wpAnyH_take (i := 8) (oi := { dst := some 6, op := Op.assign (Operand.tmp 34), type := 36, pos := "flow.go:80", after := #[{ on := 7, ground := Ground.data }, { on := 7, ground := Ground.chain }, { on := 0, ground := Ground.phase }, { on := 1, ground := Ground.phase }, { on := 2, ground := Ground.phase }, { on := 3, ground := Ground.phase }, { on := 4, ground := Ground.phase }, { on := 5, ground := Ground.phase }, { on := 6, ground := Ground.phase }, { on := 7, ground := Ground.phase }], guard := none }) (v := ?_) rfl (by kernel_rfl) (by kernel_rfl) (by kernel_rfl) (fun _ _ _ h => h) (Or.inl ⟨by rfl, ?_⟩) (by assumption) ?_
        rotate_left
        · (intro w hSw; (try dsimp only at hSw); go_simp); (try with_reducible rfl)
        try simp only [Act.put, List.setIfInBounds_toArray, List.set_cons_zero, List.set_cons_succ]
        refine wpAnyH_done (by kernel_rfl) ?_ _
        clear hHeld4
        go_wp2_with fail
        go_meet
        exact ⟨rfl, hbz6⟩
      case rest =>
        obtain ⟨rfl, hl⟩ := hcut
        obtain ⟨X2, rfl⟩ : ∃ v, v = wc := ⟨_, rfl⟩
        replace e0 := cellb e0 hl
        replace e1 := cellb e1 hl
        replace p0 := cellb p0 hl
        replace p1 := cellb p1 hl
        replace hbr1 := bthen hbr1 hl
        clear hl e2 e3
        go_upto_region 10 with fail
        refine wp_region_held_drew (S := (fun w' => w'.cell? ⟨G, 0, none⟩ = some (.int .i64 V) ∧ w'.cell? ⟨G, 1, none⟩ = some (.int .i64 Q) ∧ w'.cell? ⟨b, off, none⟩ = some (.int .i64 0) ∧ w'.cell? ⟨b, off + 1, none⟩ = some (.int .i64 P))) (by kernel_rfl) ⟨cellb p0 (Below.refl _ _).drew, cellb p1 (Below.refl _ _).drew, cellb e0 (Below.refl _ _).drew, cellb e1 (Below.refl _ _).drew⟩ (fun hHeld0 => ?_)
        obtain ⟨wzd, hwz⟩ : ∃ v, v = X2.drew := ⟨_, rfl⟩
        rw [← hwz] at hHeld0 ⊢
        have hbzd : Below X2.heap.size X2 wzd := by rw [hwz]; exact (Below.refl _ _).drew
        have hlzd : Below X2.heap.size X2 wzd := by rw [hwz]; exact (Below.refl _ _).drew
        clear hwz hlzd
        refine wpAnyH_take (i := 0) (oi := { dst := some 38, op := Op.move (Operand.tmp 4), type := 3, pos := "flow.go:83", after := #[], guard := none }) (v := ?_) rfl (by kernel_rfl) (by kernel_rfl) (by kernel_rfl) (fun _ _ _ h => h) (Or.inl ⟨by rfl, ?_⟩) (by assumption) ?_
        rotate_left
        · (intro w hSw; (try dsimp only at hSw); go_simp); (try with_reducible rfl)
        try simp only [Act.put, List.setIfInBounds_toArray, List.set_cons_zero, List.set_cons_succ]
        refine wpAnyH_take (i := 1) (oi := { dst := some 39, op := Op.binOp BinOp.gtr 3 (Operand.tmp 38) (Operand.const (Value.int IntKind.i64 0)) 3, type := 4, pos := "flow.go:83", after := #[{ on := 0, ground := Ground.data }], guard := none }) (v := ?_) rfl (by kernel_rfl) (by kernel_rfl) (by kernel_rfl) (fun _ _ _ h => h) (Or.inl ⟨by rfl, ?_⟩) (by assumption) ?_
        rotate_left
        · (intro w hSw; (try dsimp only at hSw); go_simp); (try with_reducible rfl)
        try simp only [Act.put, List.setIfInBounds_toArray, List.set_cons_zero, List.set_cons_succ]
        refine wpAnyH_take (i := 2) (oi := { dst := some 40, op := Op.move (Operand.tmp 39), type := 4, pos := "flow.go:83", after := #[{ on := 1, ground := Ground.data }], guard := none }) (v := ?_) rfl (by kernel_rfl) (by kernel_rfl) (by kernel_rfl) (fun _ _ _ h => h) (Or.inl ⟨by rfl, ?_⟩) (by assumption) ?_
        rotate_left
        · (intro w hSw; (try dsimp only at hSw); go_simp); (try with_reducible rfl)
        try simp only [Act.put, List.setIfInBounds_toArray, List.set_cons_zero, List.set_cons_succ]
        refine wpAnyH_take (i := 3) (oi := { dst := some 41, op := Op.fieldAddr 56 (Operand.tmp 5) 0, type := 0, pos := "flow.go:83", after := #[{ on := 2, ground := Ground.guard }], guard := some (2, true) }) (v := ?_) rfl (by kernel_rfl) (by kernel_rfl) (by kernel_rfl) (fun _ _ _ h => h) (Or.inl ⟨by rfl, ?_⟩) (by assumption) ?_
        rotate_left
        · (intro w hSw; (try dsimp only at hSw); go_simp); (try with_reducible rfl)
        try simp only [Act.put, List.setIfInBounds_toArray, List.set_cons_zero, List.set_cons_succ]
        refine wpAnyH_take (i := 4) (oi := { dst := some 42, op := Op.load 3 (Operand.tmp 41), type := 3, pos := "flow.go:83", after := #[{ on := 3, ground := Ground.data }, { on := 2, ground := Ground.guard }], guard := some (2, true) }) (v := ?_) rfl (by kernel_rfl) (by kernel_rfl) (by kernel_rfl) (fun _ _ _ h => h) (Or.inl ⟨by rfl, ?_⟩) (by assumption) ?_
        rotate_left
        · (intro w hSw; (try dsimp only at hSw); go_simp); (try with_reducible rfl)
        try simp only [Act.put, List.setIfInBounds_toArray, List.set_cons_zero, List.set_cons_succ]
        refine wpAnyH_take (i := 5) (oi := { dst := some 43, op := Op.move (Operand.tmp 0), type := 58, pos := "flow.go:83", after := #[{ on := 2, ground := Ground.guard }], guard := some (2, true) }) (v := ?_) rfl (by kernel_rfl) (by kernel_rfl) (by kernel_rfl) (fun _ _ _ h => h) (Or.inl ⟨by rfl, ?_⟩) (by assumption) ?_
        rotate_left
        · (intro w hSw; (try dsimp only at hSw); go_simp); (try with_reducible rfl)
        try simp only [Act.put, List.setIfInBounds_toArray, List.set_cons_zero, List.set_cons_succ]
        refine wpAnyH_take (i := 6) (oi := { dst := some 44, op := Op.move (Operand.tmp 4), type := 3, pos := "flow.go:83", after := #[{ on := 2, ground := Ground.guard }], guard := some (2, true) }) (v := ?_) rfl (by kernel_rfl) (by kernel_rfl) (by kernel_rfl) (fun _ _ _ h => h) (Or.inl ⟨by rfl, ?_⟩) (by assumption) ?_
        rotate_left
        · (intro w hSw; (try dsimp only at hSw); go_simp); (try with_reducible rfl)
        try simp only [Act.put, List.setIfInBounds_toArray, List.set_cons_zero, List.set_cons_succ]
        refine wpAnyH_take (i := 7) (oi := { dst := some 45, op := Op.binOp BinOp.sub 3 (Operand.tmp 44) (Operand.const (Value.int IntKind.i64 1)) 3, type := 3, pos := "flow.go:83", after := #[{ on := 6, ground := Ground.data }, { on := 2, ground := Ground.guard }], guard := some (2, true) }) (v := ?_) rfl (by kernel_rfl) (by kernel_rfl) (by kernel_rfl) (fun _ _ _ h => h) (Or.inl ⟨by rfl, ?_⟩) (by assumption) ?_
        rotate_left
        · (intro w hSw; (try dsimp only at hSw); go_simp); (try with_reducible rfl)
        try simp only [Act.put, List.setIfInBounds_toArray, List.set_cons_zero, List.set_cons_succ]
        refine wpAnyH_take (i := 8) (oi := { dst := some 46, op := Op.indexAddr 58 (Operand.tmp 43) (Operand.tmp 45), type := 0, pos := "flow.go:83", after := #[{ on := 5, ground := Ground.data }, { on := 7, ground := Ground.data }, { on := 2, ground := Ground.guard }], guard := some (2, true) }) (v := ?_) rfl (by kernel_rfl) (by kernel_rfl) (by kernel_rfl) (fun _ _ _ h => h) (Or.inl ⟨by rfl, ?_⟩) (by assumption) ?_
        rotate_left
        · (intro w hSw; (try dsimp only at hSw); go_simp); (try with_reducible rfl)
        try simp only [Act.put, List.setIfInBounds_toArray, List.set_cons_zero, List.set_cons_succ]
        refine wpAnyH_take (i := 9) (oi := { dst := some 47, op := Op.fieldAddr 56 (Operand.tmp 46) 0, type := 0, pos := "flow.go:83", after := #[{ on := 8, ground := Ground.data }, { on := 2, ground := Ground.guard }], guard := some (2, true) }) (v := ?_) rfl (by kernel_rfl) (by kernel_rfl) (by kernel_rfl) (fun _ _ _ h => h) (Or.inl ⟨by rfl, ?_⟩) (by assumption) ?_
        rotate_left
        · (intro w hSw; (try dsimp only at hSw); go_simp); (try with_reducible rfl)
        try simp only [Act.put, List.setIfInBounds_toArray, List.set_cons_zero, List.set_cons_succ]
        refine wpAnyH_take (i := 10) (oi := { dst := some 48, op := Op.load 3 (Operand.tmp 47), type := 3, pos := "flow.go:83", after := #[{ on := 9, ground := Ground.data }, { on := 2, ground := Ground.guard }], guard := some (2, true) }) (v := ?_) rfl (by kernel_rfl) (by kernel_rfl) (by kernel_rfl) (fun _ _ _ h => h) (Or.inl ⟨by rfl, ?_⟩) (by assumption) ?_
        rotate_left
        · (intro w hSw; (try dsimp only at hSw); go_simp); (try with_reducible rfl)
        try simp only [Act.put, List.setIfInBounds_toArray, List.set_cons_zero, List.set_cons_succ]
        refine wpAnyH_take (i := 11) (oi := { dst := some 49, op := Op.binOp BinOp.leq 3 (Operand.tmp 42) (Operand.tmp 48) 3, type := 4, pos := "flow.go:83", after := #[{ on := 4, ground := Ground.data }, { on := 10, ground := Ground.data }, { on := 2, ground := Ground.guard }], guard := some (2, true) }) (v := ?_) rfl (by kernel_rfl) (by kernel_rfl) (by kernel_rfl) (fun _ _ _ h => h) (Or.inl ⟨by rfl, ?_⟩) (by assumption) ?_
        rotate_left
        · (intro w hSw; (try dsimp only at hSw); go_simp); (try with_reducible rfl)
        try simp only [Act.put, List.setIfInBounds_toArray, List.set_cons_zero, List.set_cons_succ]
        refine wpAnyH_take (i := 12) (oi := { dst := some 50, op := Op.move (Operand.tmp 49), type := 4, pos := "flow.go:83", after := #[{ on := 11, ground := Ground.data }, { on := 2, ground := Ground.chain }, { on := 2, ground := Ground.guard }], guard := some (2, true) }) (v := ?_) rfl (by kernel_rfl) (by kernel_rfl) (by kernel_rfl) (fun _ _ _ h => h) (Or.inl ⟨by rfl, ?_⟩) (by assumption) ?_
        rotate_left
        · (intro w hSw; (try dsimp only at hSw); go_simp); (try with_reducible rfl)
        try simp only [Act.put, List.setIfInBounds_toArray, List.set_cons_zero, List.set_cons_succ]
        refine wpAnyH_take (i := 13) (oi := { dst := some 51, op := Op.fieldAddr 56 (Operand.tmp 5) 1, type := 0, pos := "flow.go:83", after := #[{ on := 12, ground := Ground.guard }], guard := some (12, false) }) (v := ?_) rfl (by kernel_rfl) (by kernel_rfl) (by kernel_rfl) (fun _ _ _ h => h) (Or.inl ⟨by rfl, ?_⟩) (by assumption) ?_
        rotate_left
        · (intro w hSw; (try dsimp only at hSw); go_simp); (try with_reducible rfl)
        try simp only [Act.put, List.setIfInBounds_toArray, List.set_cons_zero, List.set_cons_succ]
        refine wpAnyH_take (i := 14) (oi := { dst := some 52, op := Op.load 3 (Operand.tmp 51), type := 3, pos := "flow.go:83", after := #[{ on := 13, ground := Ground.data }, { on := 12, ground := Ground.guard }], guard := some (12, false) }) (v := ?_) rfl (by kernel_rfl) (by kernel_rfl) (by kernel_rfl) (fun _ _ _ h => h) (Or.inl ⟨by rfl, ?_⟩) (by assumption) ?_
        rotate_left
        · (intro w hSw; (try dsimp only at hSw); go_simp); (try with_reducible rfl)
        try simp only [Act.put, List.setIfInBounds_toArray, List.set_cons_zero, List.set_cons_succ]
        refine wpAnyH_take (i := 15) (oi := { dst := some 53, op := Op.move (Operand.tmp 0), type := 58, pos := "flow.go:83", after := #[{ on := 12, ground := Ground.guard }], guard := some (12, false) }) (v := ?_) rfl (by kernel_rfl) (by kernel_rfl) (by kernel_rfl) (fun _ _ _ h => h) (Or.inl ⟨by rfl, ?_⟩) (by assumption) ?_
        rotate_left
        · (intro w hSw; (try dsimp only at hSw); go_simp); (try with_reducible rfl)
        try simp only [Act.put, List.setIfInBounds_toArray, List.set_cons_zero, List.set_cons_succ]
        refine wpAnyH_take (i := 16) (oi := { dst := some 54, op := Op.move (Operand.tmp 4), type := 3, pos := "flow.go:83", after := #[{ on := 12, ground := Ground.guard }], guard := some (12, false) }) (v := ?_) rfl (by kernel_rfl) (by kernel_rfl) (by kernel_rfl) (fun _ _ _ h => h) (Or.inl ⟨by rfl, ?_⟩) (by assumption) ?_
        rotate_left
        · (intro w hSw; (try dsimp only at hSw); go_simp); (try with_reducible rfl)
        try simp only [Act.put, List.setIfInBounds_toArray, List.set_cons_zero, List.set_cons_succ]
        refine wpAnyH_take (i := 17) (oi := { dst := some 55, op := Op.binOp BinOp.sub 3 (Operand.tmp 54) (Operand.const (Value.int IntKind.i64 1)) 3, type := 3, pos := "flow.go:83", after := #[{ on := 16, ground := Ground.data }, { on := 12, ground := Ground.guard }], guard := some (12, false) }) (v := ?_) rfl (by kernel_rfl) (by kernel_rfl) (by kernel_rfl) (fun _ _ _ h => h) (Or.inl ⟨by rfl, ?_⟩) (by assumption) ?_
        rotate_left
        · (intro w hSw; (try dsimp only at hSw); go_simp); (try with_reducible rfl)
        try simp only [Act.put, List.setIfInBounds_toArray, List.set_cons_zero, List.set_cons_succ]
        refine wpAnyH_take (i := 18) (oi := { dst := some 56, op := Op.indexAddr 58 (Operand.tmp 53) (Operand.tmp 55), type := 0, pos := "flow.go:83", after := #[{ on := 15, ground := Ground.data }, { on := 17, ground := Ground.data }, { on := 12, ground := Ground.guard }], guard := some (12, false) }) (v := ?_) rfl (by kernel_rfl) (by kernel_rfl) (by kernel_rfl) (fun _ _ _ h => h) (Or.inl ⟨by rfl, ?_⟩) (by assumption) ?_
        rotate_left
        · (intro w hSw; (try dsimp only at hSw); go_simp); (try with_reducible rfl)
        try simp only [Act.put, List.setIfInBounds_toArray, List.set_cons_zero, List.set_cons_succ]
        refine wpAnyH_take (i := 19) (oi := { dst := some 57, op := Op.fieldAddr 56 (Operand.tmp 56) 1, type := 0, pos := "flow.go:83", after := #[{ on := 18, ground := Ground.data }, { on := 12, ground := Ground.guard }], guard := some (12, false) }) (v := ?_) rfl (by kernel_rfl) (by kernel_rfl) (by kernel_rfl) (fun _ _ _ h => h) (Or.inl ⟨by rfl, ?_⟩) (by assumption) ?_
        rotate_left
        · (intro w hSw; (try dsimp only at hSw); go_simp); (try with_reducible rfl)
        try simp only [Act.put, List.setIfInBounds_toArray, List.set_cons_zero, List.set_cons_succ]
        refine wpAnyH_take (i := 20) (oi := { dst := some 58, op := Op.load 3 (Operand.tmp 57), type := 3, pos := "flow.go:83", after := #[{ on := 19, ground := Ground.data }, { on := 12, ground := Ground.guard }], guard := some (12, false) }) (v := ?_) rfl (by kernel_rfl) (by kernel_rfl) (by kernel_rfl) (fun _ _ _ h => h) (Or.inl ⟨by rfl, ?_⟩) (by assumption) ?_
        rotate_left
        · (intro w hSw; (try dsimp only at hSw); go_simp); (try with_reducible rfl)
        try simp only [Act.put, List.setIfInBounds_toArray, List.set_cons_zero, List.set_cons_succ]
        refine wpAnyH_take (i := 21) (oi := { dst := some 59, op := Op.binOp BinOp.geq 3 (Operand.tmp 52) (Operand.tmp 58) 3, type := 4, pos := "flow.go:83", after := #[{ on := 14, ground := Ground.data }, { on := 20, ground := Ground.data }, { on := 12, ground := Ground.guard }], guard := some (12, false) }) (v := ?_) rfl (by kernel_rfl) (by kernel_rfl) (by kernel_rfl) (fun _ _ _ h => h) (Or.inl ⟨by rfl, ?_⟩) (by assumption) ?_
        rotate_left
        · (intro w hSw; (try dsimp only at hSw); go_simp); (try with_reducible rfl)
        try simp only [Act.put, List.setIfInBounds_toArray, List.set_cons_zero, List.set_cons_succ]
        refine wpAnyH_take (i := 22) (oi := { dst := some 60, op := Op.pick (Operand.tmp 50) (Operand.const (Value.bool true)) (Operand.tmp 59), type := 4, pos := "flow.go:83", after := #[{ on := 12, ground := Ground.data }, { on := 21, ground := Ground.data }, { on := 2, ground := Ground.guard }], guard := some (2, true) }) (v := ?_) rfl (by kernel_rfl) (by kernel_rfl) (by kernel_rfl) (fun _ _ _ h => h) (Or.inl ⟨by rfl, ?_⟩) (by assumption) ?_
        rotate_left
        · (intro w hSw; (try dsimp only at hSw); go_simp); (try with_reducible rfl)
        try simp only [Act.put, List.setIfInBounds_toArray, List.set_cons_zero, List.set_cons_succ]
        refine wpAnyH_take (i := 23) (oi := { dst := some 61, op := Op.pick (Operand.tmp 40) (Operand.tmp 60) (Operand.const (Value.bool false)), type := 4, pos := "flow.go:83", after := #[{ on := 2, ground := Ground.data }, { on := 22, ground := Ground.data }], guard := none }) (v := ?_) rfl (by kernel_rfl) (by kernel_rfl) (by kernel_rfl) (fun _ _ _ h => h) (Or.inl ⟨by rfl, ?_⟩) (by assumption) ?_
        rotate_left
        · (intro w hSw; (try dsimp only at hSw); go_simp); (try with_reducible rfl)
        try simp only [Act.put, List.setIfInBounds_toArray, List.set_cons_zero, List.set_cons_succ]
        refine wpAnyH_done (by kernel_rfl) ?_ _
        clear hHeld0
        replace hbr1 := bthen hbr1 hbzd
        go_wp2_with fail
        go_roundw
        case rel => exact ⟨2, by omega, rfl, hbr1⟩
        case measure => simp [intOf]
    · go_wp2_with fail
      go_ret
      exact ⟨rfl, bthen hB hbr⟩

end Go.Proofs.Ytipmjjnhdjcoiaa

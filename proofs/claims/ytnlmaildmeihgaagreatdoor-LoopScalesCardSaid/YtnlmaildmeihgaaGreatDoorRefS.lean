/- The reference's divisor, checkScale and scaled. -/
import Derived.Test.YtnlmaildmeihgaaGreatDoorRefT
import Derived.Test.YtnlmaildmeihgaaGreatDoorLoopU
import Derived.Test.YtnlmaildmeihgaaGreatDoorAwakeE
namespace Go.Proofs.YtnlmaildmeihgaaGreatDoor
open Go.RowKit

theorem gcdW_natAbs (f : Nat) (a b : Int) (hf : b.natAbs < f) : (gcdW f a b).natAbs = Nat.gcd a.natAbs b.natAbs := by
  induction f generalizing a b with
  | zero => omega
  | succ f ih =>
    rw [gcdW]
    by_cases hb : b = 0
    · rw [if_pos hb, hb]; simp
    · rw [if_neg hb]
      have hlt := tmod_lt a b hb
      rw [ih b (a.tmod b) (by omega), Int.natAbs_tmod, Nat.gcd_comm, ← Nat.gcd_rec, Nat.gcd_comm]
theorem commonW_gcd (a b : Int) (ha : a.natAbs ≤ 4611686018427387904) (hb : b.natAbs ≤ 4611686018427387904) : commonW a b = (Nat.gcd a.natAbs b.natAbs : Int) := by
  have h1 := gcdW_le (b.natAbs + 1) a b
  have h2 := gcdW_natAbs (b.natAbs + 1) a b (by omega)
  unfold commonW absW
  generalize gcdW (b.natAbs + 1) a b = g at h1 h2
  rw [IntWalk.wrap64_in (-g) (by omega), ← h2]
  omega

set_option maxHeartbeats 1000000 in
theorem divisorR_any (a b : Int) (w : World) (ha : a.natAbs ≤ 4611686018427387904) (hb : b.natAbs ≤ 4611686018427387904) :
    Calls Tryz.prog 144 #[.int .i64 a, .int .i64 b] w fun e w' => e = .returned (.int .i64 (commonW a b)) ∧ Below w.heap.size w w' := by
  rw [commonW_gcd a b ha hb]
  have e1 : IntKind.i64.wrap (0 - a) = 0 - a := IntWalk.i64_in _ (by omega)
  have e2 : IntKind.i64.wrap (0 - b) = 0 - b := IntWalk.i64_in _ (by omega)
  have m1 : max a (0 - a) = (a.natAbs : Int) := by omega
  have m2 : max b (0 - b) = (b.natAbs : Int) := by omega
  have n1 : max a (-a) = (a.natAbs : Int) := by omega
  have n2 : max b (-b) = (b.natAbs : Int) := by omega
  go_enter Tryz.func144, Tryz.ntmps144
  go_wp2
  go_loopw [0, 1] (fun va vb wr => ∃ x y : Nat, va = .int .i64 x ∧ vb = .int .i64 y ∧ x ≤ 4611686018427387904 ∧ y ≤ 4611686018427387904 ∧ Nat.gcd x y = Nat.gcd a.natAbs b.natAbs ∧ Below w.heap.size w wr) (fun _ vb _ => (intOf vb).toNat)
  case atStart => exact ⟨a.natAbs, b.natAbs, by simp, by simp, ha, hb, rfl, Below.refl _ _⟩
  case round =>
    obtain ⟨x, y, rfl, rfl, hx, hy, hG, hbr⟩ := hrel
    have HG := Lib.hid hG
    clear hG m1 m2 n1 n2 e1 e2
    by_cases h0 : y = 0
    · subst h0
      have HR := Lib.hid (show x = Nat.gcd a.natAbs b.natAbs by rw [← HG.out, Nat.gcd_zero_right])
      go_wp2
      go_ret
      exact ⟨ret_int (by rw [HR.out]), hbr⟩
    · have hy0 : ((y : Int) == 0) = false := by rw [beq_eq_false_iff_ne]; omega
      have hy1 : ((y : Int) != 0) = true := by rw [bne_iff_ne]; omega
      have hlt : x % y < y := Nat.mod_lt _ (by omega)
      have t1 : (x : Int).tmod (y : Int) = ((x % y : Nat) : Int) := by rw [Int.tmod_eq_emod_of_nonneg (by omega)]; rfl
      have HG2 := Lib.hid (show Nat.gcd y (x % y) = Nat.gcd a.natAbs b.natAbs by rw [← HG.out, Nat.gcd_comm y, ← Nat.gcd_rec, Nat.gcd_comm])
      generalize x % y = z at hlt t1 HG2
      go_wp2_with fail
      refine wp_region_held_drew (S := (fun _ => True)) (by kernel_rfl) ?_ (fun hHeld0 => ?_)
      · (try dsimp only); (first | done | trivial)
      refine wpAnyH_take (i := 0) (oi := { dst := some 15, op := Op.move (Operand.tmp 1), type := 3, pos := "ref.go:230", after := #[], guard := none }) (v := ?_) rfl (by kernel_rfl) (by kernel_rfl) (by kernel_rfl) (fun _ _ _ h => h) (Or.inl ⟨by rfl, ?_⟩) (by assumption) ?_
      rotate_left
      · (intro w hSw; (try dsimp only at hSw); go_simp); (try with_reducible rfl)
      try simp only [Act.put, List.setIfInBounds_toArray, List.set_cons_zero, List.set_cons_succ]
      refine wpAnyH_take (i := 1) (oi := { dst := some 16, op := Op.move (Operand.tmp 0), type := 3, pos := "ref.go:230", after := #[], guard := none }) (v := ?_) rfl (by kernel_rfl) (by kernel_rfl) (by kernel_rfl) (fun _ _ _ h => h) (Or.inl ⟨by rfl, ?_⟩) (by assumption) ?_
      rotate_left
      · (intro w hSw; (try dsimp only at hSw); go_simp); (try with_reducible rfl)
      try simp only [Act.put, List.setIfInBounds_toArray, List.set_cons_zero, List.set_cons_succ]
      refine wpAnyH_take (i := 2) (oi := { dst := some 17, op := Op.move (Operand.tmp 1), type := 3, pos := "ref.go:230", after := #[], guard := none }) (v := ?_) rfl (by kernel_rfl) (by kernel_rfl) (by kernel_rfl) (fun _ _ _ h => h) (Or.inl ⟨by rfl, ?_⟩) (by assumption) ?_
      rotate_left
      · (intro w hSw; (try dsimp only at hSw); go_simp); (try with_reducible rfl)
      try simp only [Act.put, List.setIfInBounds_toArray, List.set_cons_zero, List.set_cons_succ]
      refine wpAnyH_take (i := 3) (oi := { dst := some 18, op := Op.binOp BinOp.rem 3 (Operand.tmp 16) (Operand.tmp 17) 3, type := 3, pos := "ref.go:230", after := #[{ on := 1, ground := Ground.data }, { on := 2, ground := Ground.data }], guard := none }) (v := ?_) rfl (by kernel_rfl) (by kernel_rfl) (by kernel_rfl) (fun _ _ _ h => h) (Or.inl ⟨by rfl, ?_⟩) (by assumption) ?_
      rotate_left
      · (intro w hSw; (try dsimp only at hSw); go_simp); (try with_reducible rfl)
      try simp only [Act.put, List.setIfInBounds_toArray, List.set_cons_zero, List.set_cons_succ]
      refine wpAnyH_take (i := 4) (oi := { dst := some 0, op := Op.assign (Operand.tmp 15), type := 3, pos := "ref.go:230", after := #[{ on := 0, ground := Ground.data }, { on := 0, ground := Ground.phase }, { on := 1, ground := Ground.phase }, { on := 2, ground := Ground.textOnly Departure.lateStores }, { on := 3, ground := Ground.textOnly Departure.lateStoresUnsure }], guard := none }) (v := ?_) rfl (by kernel_rfl) (by kernel_rfl) (by kernel_rfl) (fun _ _ _ h => h) (Or.inl ⟨by rfl, ?_⟩) (by assumption) ?_
      rotate_left
      · (intro w hSw; (try dsimp only at hSw); go_simp); (try with_reducible rfl)
      try simp only [Act.put, List.setIfInBounds_toArray, List.set_cons_zero]
      refine wpAnyH_take (i := 5) (oi := { dst := some 1, op := Op.assign (Operand.tmp 18), type := 3, pos := "ref.go:230", after := #[{ on := 3, ground := Ground.data }, { on := 4, ground := Ground.chain }, { on := 0, ground := Ground.phase }, { on := 1, ground := Ground.phase }, { on := 2, ground := Ground.phase }, { on := 3, ground := Ground.phase }, { on := 4, ground := Ground.phase }], guard := none }) (v := ?_) rfl (by kernel_rfl) (by kernel_rfl) (by kernel_rfl) (fun _ _ _ h => h) (Or.inl ⟨by rfl, ?_⟩) (by assumption) ?_
      rotate_left
      · (intro w hSw; (try dsimp only at hSw); go_simp); (try with_reducible rfl)
      try simp only [Act.put, List.setIfInBounds_toArray, List.set_cons_zero, List.set_cons_succ]
      refine wpAnyH_done (by kernel_rfl) ?_ _
      clear hHeld0
      go_wp2
      go_roundw
      case rel => exact ⟨y, z, rfl, rfl, hy, by omega, HG2.out, hbr.drew⟩
      case measure => simp [intOf]; omega

theorem scal1_eq (p : List Int) (num den : Int) : scal1E p num den = if firstE [checkPolyE p, withinE num 1 4, withinE den 1 4] ≠ 0 then firstE [checkPolyE p, withinE num 1 4, withinE den 1 4] else whenE (commonW num den != 1) 1 := by
  unfold scal1E ratioE
  simp only [firstE]
  by_cases h1 : checkPolyE p = 0 <;> by_cases h2 : withinE num 1 4 = 0 <;> by_cases h3 : withinE den 1 4 = 0 <;> by_cases h4 : whenE (commonW num den != 1) 1 = 0 <;> simp [h1, h2, h3, h4]

set_option maxRecDepth 100000 in
set_option maxHeartbeats 4000000 in
theorem checkScaleR_any (v : Value) (p : List Int) (num den : Int) (w : World) (hv : Ints w v p) (hl : p.length ≤ 100000) :
    Calls Tryz.prog 95 #[v, .agg #[.int .i64 num, .int .i64 den]] w fun e w' => e = .returned (.int .i64 (scal1E p num den)) ∧ Below w.heap.size w w' := by
  have HV := Lib.hid hv
  have HE := Lib.hid (scal1_eq p num den)
  have HN : Hid (withinE num 1 4 = 0 → 1 ≤ num ∧ num ≤ 4) := Lib.hid withinE_ok
  have HD : Hid (withinE den 1 4 = 0 → 1 ≤ den ∧ den ≤ 4) := Lib.hid withinE_ok
  have TP := fun W h => CheckPolyR_any v p W h (by omega)
  have TN := fun W => CheckRange_any num 1 4 W
  have TD := fun W => CheckRange_any den 1 4 W
  obtain ⟨a, cap, rfl, _⟩ := hv
  generalize checkPolyE p = pe at TP HE
  generalize withinE num 1 4 = ne at TN HE HN
  generalize withinE den 1 4 = de at TD HE HD
  have TP := Lib.hid TP
  have TN := Lib.hid TN
  have TD := Lib.hid TD
  go_enter Tryz.func95, Tryz.ntmps95
  go_upto_region 1 with fail
  obtain ⟨W1, hW1⟩ : ∃ v, v = World.alloc w (Obj.cells #[.int .i64 num, .int .i64 den] 24) := ⟨_, rfl⟩
  have kW1 : Below w.heap.size w W1 := by rw [hW1]; exact below_new _ _
  have iW1 : Blk W1 (w.heap.size) 24 [.int .i64 num, .int .i64 den] := by rw [hW1]; exact Blk.new _ _ _
  have sW1 : W1.heap.size = w.heap.size + 1 := by rw [hW1]; simp
  rw [← hW1]
  clear hW1
  clear sW1
  have e0 := iW1.cell (j := 0) (v := .int .i64 num) rfl
  have e1 := iW1.cell (j := 1) (v := .int .i64 den) rfl
  go_cut [5] from 6 to 15 (fun v wn => v = .int .i64 (firstE [pe, ne, de]) ∧ Below W1.heap.size W1 wn)
  case first =>
    refine wp_region_held_drew (S := (fun w' => w'.cell? ⟨w.heap.size, 0, none⟩ = some (.int .i64 num) ∧ w'.cell? ⟨w.heap.size, 1, none⟩ = some (.int .i64 den))) (by kernel_rfl) ⟨cellb e0 (Below.refl _ _).drew, cellb e1 (Below.refl _ _).drew⟩ (fun hHeld0 => ?_)
    obtain ⟨wzd, hwz⟩ : ∃ v, v = W1.drew := ⟨_, rfl⟩
    rw [← hwz] at hHeld0 ⊢
    have hbzd : Below W1.heap.size W1 wzd := by rw [hwz]; exact (Below.refl _ _).drew
    have hlzd : Below W1.heap.size W1 wzd := by rw [hwz]; exact (Below.refl _ _).drew
    clear hwz hlzd
    refine wpAnyH_take (i := 0) (oi := { dst := some 6, op := Op.move (Operand.tmp 0), type := 22, pos := "ref.go:260", after := #[], guard := none }) (v := ?_) rfl (by kernel_rfl) (by kernel_rfl) (by kernel_rfl) (fun _ _ _ h => h) (Or.inl ⟨by rfl, ?_⟩) (by assumption) ?_
    rotate_left
    · (intro w hSw; (try dsimp only at hSw); go_simp); (try with_reducible rfl)
    try simp only [Act.put, List.setIfInBounds_toArray, List.set_cons_zero, List.set_cons_succ]
    refine wpAnyH_take (i := 2) (oi := { dst := some 8, op := Op.fieldAddr 24 (Operand.tmp 3) 0, type := 0, pos := "ref.go:260", after := #[], guard := none }) (v := ?_) rfl (by kernel_rfl) (by kernel_rfl) (by kernel_rfl) (fun _ _ _ h => h) (Or.inl ⟨by rfl, ?_⟩) (by assumption) ?_
    rotate_left
    · (intro w hSw; (try dsimp only at hSw); go_simp); (try with_reducible rfl)
    try simp only [Act.put, List.setIfInBounds_toArray, List.set_cons_zero, List.set_cons_succ]
    refine wpAnyH_take (i := 3) (oi := { dst := some 9, op := Op.load 3 (Operand.tmp 8), type := 3, pos := "ref.go:260", after := #[{ on := 2, ground := Ground.data }], guard := none }) (v := ?_) rfl (by kernel_rfl) (by kernel_rfl) (by kernel_rfl) (fun _ _ _ h => h) (Or.inl ⟨by rfl, ?_⟩) (by assumption) ?_
    rotate_left
    · (intro w hSw; (try dsimp only at hSw); go_simp); (try with_reducible rfl)
    try simp only [Act.put, List.setIfInBounds_toArray, List.set_cons_zero, List.set_cons_succ]
    refine wpAnyH_take (i := 5) (oi := { dst := some 11, op := Op.fieldAddr 24 (Operand.tmp 3) 1, type := 0, pos := "ref.go:260", after := #[], guard := none }) (v := ?_) rfl (by kernel_rfl) (by kernel_rfl) (by kernel_rfl) (fun _ _ _ h => h) (Or.inl ⟨by rfl, ?_⟩) (by assumption) ?_
    rotate_left
    · (intro w hSw; (try dsimp only at hSw); go_simp); (try with_reducible rfl)
    try simp only [Act.put, List.setIfInBounds_toArray, List.set_cons_zero, List.set_cons_succ]
    refine wpAnyH_take (i := 6) (oi := { dst := some 12, op := Op.load 3 (Operand.tmp 11), type := 3, pos := "ref.go:260", after := #[{ on := 5, ground := Ground.data }], guard := none }) (v := ?_) rfl (by kernel_rfl) (by kernel_rfl) (by kernel_rfl) (fun _ _ _ h => h) (Or.inl ⟨by rfl, ?_⟩) (by assumption) ?_
    rotate_left
    · (intro w hSw; (try dsimp only at hSw); go_simp); (try with_reducible rfl)
    try simp only [Act.put, List.setIfInBounds_toArray, List.set_cons_zero, List.set_cons_succ]
    refine wpAnyH_ready (rs := [1]) (by kernel_rfl) (by simp) ?_
    refine (AllReadyH.cons (o := { dst := some 7, op := Op.call { callee := Callee.value (Operand.func 60), args := #[Operand.tmp 6], argTypes := #[22] }, type := 3, pos := "ref.go:260", after := #[{ on := 0, ground := Ground.data }], guard := none }) rfl (fun K hK => ?_) AllReadyH.nil)
    go_simp
    refine (TP.out wzd (HV.out.carry (bthen kW1 hbzd))).mono ?_
    rintro e wz1 ⟨rfl, hww⟩
    have hl : Below wzd.heap.size wzd wz1 := by rw [hww]; exact Below.refl _ _
    clear hww
    (try go_wp2_with fail)
    have hbz1 := bthen hbzd hl
    clear hl
    refine hK.out _ _ ⟨cellb e0 hbz1, cellb e1 hbz1⟩ (fun hHeld1 => ?_)
    clear hK K hHeld0
    try simp only [Act.put, List.setIfInBounds_toArray, List.set_cons_zero, List.set_cons_succ]
    refine wpAnyH_ready (rs := [4]) (by kernel_rfl) (by simp) ?_
    refine (AllReadyH.cons (o := { dst := some 10, op := Op.call { callee := Callee.value (Operand.func 68), args := #[Operand.tmp 9, Operand.const (Value.int IntKind.i64 1), Operand.const (Value.int IntKind.i64 4)], argTypes := #[3, 3, 3] }, type := 3, pos := "ref.go:260", after := #[{ on := 3, ground := Ground.data }, { on := 1, ground := Ground.chain }], guard := none }) rfl (fun K hK => ?_) AllReadyH.nil)
    go_simp
    refine (TN.out wz1).mono ?_
    rintro e wz4 ⟨rfl, hww⟩
    have hl : Below wz1.heap.size wz1 wz4 := by rw [hww]; exact Below.refl _ _
    clear hww
    (try go_wp2_with fail)
    have hbz4 := bthen hbz1 hl
    clear hl
    refine hK.out _ _ ⟨cellb e0 hbz4, cellb e1 hbz4⟩ (fun hHeld2 => ?_)
    clear hK K hHeld1
    try simp only [Act.put, List.setIfInBounds_toArray, List.set_cons_zero, List.set_cons_succ]
    refine wpAnyH_ready (rs := [7]) (by kernel_rfl) (by simp) ?_
    refine (AllReadyH.cons (o := { dst := some 13, op := Op.call { callee := Callee.value (Operand.func 68), args := #[Operand.tmp 12, Operand.const (Value.int IntKind.i64 1), Operand.const (Value.int IntKind.i64 4)], argTypes := #[3, 3, 3] }, type := 3, pos := "ref.go:260", after := #[{ on := 6, ground := Ground.data }, { on := 4, ground := Ground.chain }], guard := none }) rfl (fun K hK => ?_) AllReadyH.nil)
    go_simp
    refine (TD.out wz4).mono ?_
    rintro e wz7 ⟨rfl, hww⟩
    have hl : Below wz4.heap.size wz4 wz7 := by rw [hww]; exact Below.refl _ _
    clear hww
    (try go_wp2_with fail)
    have hbz7 := bthen hbz4 hl
    clear hl
    refine hK.out _ _ ⟨cellb e0 hbz7, cellb e1 hbz7⟩ (fun hHeld3 => ?_)
    clear hK K hHeld2
    try simp only [Act.put, List.setIfInBounds_toArray, List.set_cons_zero, List.set_cons_succ]
    refine wpAnyH_ready (rs := [8]) (by kernel_rfl) (by simp) ?_
    refine (AllReadyH.cons (o := { dst := some 14, op := Op.buildSlice 22 3 #[(0, Operand.tmp 7), (1, Operand.tmp 10), (2, Operand.tmp 13)], type := 22, pos := "ref.go:260", after := #[{ on := 1, ground := Ground.data }, { on := 4, ground := Ground.data }, { on := 7, ground := Ground.data }], guard := none }) rfl (fun K hK => ?_) AllReadyH.nil)
    go_simp
    obtain ⟨wz8, hwz⟩ : ∃ v, v = wz7.alloc (Obj.cells #[.int .i64 pe, .int .i64 ne, .int .i64 de] 3) := ⟨_, rfl⟩
    rw [← hwz]
    have hl : Below wz7.heap.size wz7 wz8 := by rw [hwz]; exact below_new _ _
    have hbz8 := bthen hbz7 hl
    have bs : BlkI wz8 wz7.heap.size 3 [pe, ne, de] := by rw [hwz]; exact Blk.new _ _ _
    generalize wz7.heap.size = G at bs ⊢
    clear hwz
    clear hl
    refine hK.out _ _ ⟨cellb e0 hbz8, cellb e1 hbz8⟩ (fun hHeld4 => ?_)
    clear hK K hHeld3
    try simp only [Act.put, List.setIfInBounds_toArray, List.set_cons_zero, List.set_cons_succ]
    refine wpAnyH_ready (rs := [9]) (by kernel_rfl) (by simp) ?_
    refine (AllReadyH.cons (o := { dst := some 15, op := Op.call { callee := Callee.value (Operand.func 49), args := #[Operand.tmp 14], argTypes := #[22] }, type := 3, pos := "ref.go:260", after := #[{ on := 8, ground := Ground.data }, { on := 7, ground := Ground.chain }], guard := none }) rfl (fun K hK => ?_) AllReadyH.nil)
    go_simp
    refine (FirstR_any _ [pe, ne, de] wz8 (by simp) (BlkI.ints (n := 3) bs rfl)).mono ?_
    rintro e wz9 ⟨rfl, hww⟩
    have hl : Below wz8.heap.size wz8 wz9 := by rw [hww]; exact Below.refl _ _
    clear hww
    (try go_wp2_with fail)
    have hbz9 := bthen hbz8 hl
    have bs := bs.carry hl
    clear hl
    refine hK.out _ _ ⟨cellb e0 hbz9, cellb e1 hbz9⟩ (fun hHeld5 => ?_)
    clear hK K hHeld4
    try simp only [Act.put, List.setIfInBounds_toArray, List.set_cons_zero, List.set_cons_succ]
    refine wpAnyH_take (i := 10) (oi := { dst := some 5, op := Op.assign (Operand.tmp 15), type := 3, pos := "ref.go:260", after := #[{ on := 9, ground := Ground.data }, { on := 9, ground := Ground.chain }, { on := 0, ground := Ground.phase }, { on := 1, ground := Ground.phase }, { on := 2, ground := Ground.phase }, { on := 3, ground := Ground.phase }, { on := 4, ground := Ground.phase }, { on := 5, ground := Ground.phase }, { on := 6, ground := Ground.phase }, { on := 7, ground := Ground.phase }, { on := 8, ground := Ground.phase }, { on := 9, ground := Ground.phase }], guard := none }) (v := ?_) rfl (by kernel_rfl) (by kernel_rfl) (by kernel_rfl) (fun _ _ _ h => h) (Or.inl ⟨by rfl, ?_⟩) (by assumption) ?_
    rotate_left
    · (intro w hSw; (try dsimp only at hSw); go_simp); (try with_reducible rfl)
    try simp only [Act.put, List.setIfInBounds_toArray, List.set_cons_zero, List.set_cons_succ]
    refine wpAnyH_done (by kernel_rfl) ?_ _
    clear hHeld5
    go_wp2_with fail
    go_meet
    exact ⟨rfl, hbz9⟩
  case rest =>
    obtain ⟨rfl, hl5⟩ := hcut
    have hB := bthen kW1 hl5
    have e0 := cellb e0 hl5
    have e1 := cellb e1 hl5
    by_cases hf : firstE [pe, ne, de] = 0
    · obtain ⟨f1, f2⟩ := firstE_cons_ok hf
      obtain ⟨f2, f3⟩ := firstE_cons_ok f2
      obtain ⟨f3, _⟩ := firstE_cons_ok f3
      have hn := HN.out f2
      have hd := HD.out f3
      have HR := Lib.hid (HE.out.trans (if_neg (by rw [hf]; simp)))
      have hcb := commonW_bd num den 4 (by omega) (by omega) (by decide)
      have hc1 := hcb.2.2 (.inl (by omega))
      have td := divisorR_any num den wc (by omega) (by omega)
      rw [hf]
      clear hf f1 f2 f3 hn hd hcb
      generalize commonW num den = g at hc1 td HR
      by_cases h1 : 1 < g
      · have HR2 := Lib.hid (HR.out.trans (show whenE (g != 1) 1 = 1 by rw [show (g != 1) = true by rw [bne_iff_ne]; omega]; rfl))
        go_wp2_with fail
        refine td.mono ?_
        rintro e w9 ⟨rfl, hl9⟩
        clear td
        go_wp2
        go_ret
        exact ⟨ret_int HR2.out.symm, bthen hB hl9⟩
      · have HR2 := Lib.hid (HR.out.trans (show whenE (g != 1) 1 = 0 by rw [show (g != 1) = false by rw [bne_eq_false_iff_eq]; omega]; rfl))
        go_wp2_with fail
        refine td.mono ?_
        rintro e w9 ⟨rfl, hl9⟩
        clear td
        go_wp2
        go_ret
        exact ⟨ret_int HR2.out.symm, bthen hB hl9⟩
    · have HR := Lib.hid (HE.out.trans (if_pos hf))
      clear e0 e1
      generalize firstE [pe, ne, de] = f at hf HR
      go_wp2
      go_ret
      exact ⟨ret_int HR.out.symm, hB⟩

theorem powW_next {a : Int} {n : Nat} (h1 : 1 ≤ a) (h2 : a ≤ 4) (hn : n + 1 ≤ 4) : powW a (n + 1) = powW a n * a := by
  have h := powW_small (n := n) h1 h2 (by omega)
  rw [powW, IntWalk.wrap64_in]
  have : (powW a n * a).natAbs ≤ 256 * 4 := by rw [Int.natAbs_mul]; exact Nat.mul_le_mul (by omega) (by omega)
  omega
/-- a coefficient on its way: i factors are in. -/
def scalX (x num den : Int) (k i : Nat) : Int := x * powW den (min i k) * powW num (i - min i k)
theorem scalX_bd {x num den : Int} (hx : -100 ≤ x ∧ x ≤ 100) (hn : 1 ≤ num ∧ num ≤ 4) (hd : 1 ≤ den ∧ den ≤ 4) (k i : Nat) (hi : i ≤ 4) : (scalX x num den k i).natAbs ≤ 6553600 := by
  have h1 := powW_small (n := min i k) hd.1 hd.2 (by omega)
  have h2 := powW_small (n := i - min i k) hn.1 hn.2 (by omega)
  unfold scalX
  rw [Int.natAbs_mul, Int.natAbs_mul]
  have a1 : x.natAbs * (powW den (min i k)).natAbs ≤ 100 * 256 := Nat.mul_le_mul (by omega) (by omega)
  exact Nat.le_trans (Nat.mul_le_mul a1 (show (powW num (i - min i k)).natAbs ≤ 256 by omega)) (by decide)
theorem scalX_den {x num den : Int} (hx : -100 ≤ x ∧ x ≤ 100) (hn : 1 ≤ num ∧ num ≤ 4) (hd : 1 ≤ den ∧ den ≤ 4) {k i : Nat} (hi : i + 1 ≤ 4) (hk : i < k) : IntKind.i64.wrap (scalX x num den k i * den) = scalX x num den k (i + 1) := by
  have e : scalX x num den k i * den = scalX x num den k (i + 1) := by
    unfold scalX
    rw [Nat.min_eq_left (by omega), Nat.min_eq_left (by omega), Nat.sub_self, Nat.sub_self, powW_next hd.1 hd.2 (by omega)]
    simp only [powW, Int.mul_one]
    rw [Int.mul_assoc]
  rw [e]
  have := scalX_bd hx hn hd k (i + 1) hi
  exact IntWalk.i64_in _ (by omega)
theorem scalX_num {x num den : Int} (hx : -100 ≤ x ∧ x ≤ 100) (hn : 1 ≤ num ∧ num ≤ 4) (hd : 1 ≤ den ∧ den ≤ 4) {k i : Nat} (hi : i + 1 ≤ 4) (hk : ¬ i < k) : IntKind.i64.wrap (scalX x num den k i * num) = scalX x num den k (i + 1) := by
  have e : scalX x num den k i * num = scalX x num den k (i + 1) := by
    unfold scalX
    rw [Nat.min_eq_right (by omega), Nat.min_eq_right (by omega), show i + 1 - k = (i - k) + 1 by omega, powW_next hn.1 hn.2 (by omega)]
    rw [Int.mul_assoc]
  rw [e]
  have := scalX_bd hx hn hd k (i + 1) hi
  exact IntWalk.i64_in _ (by omega)
theorem scalX_end {p : List Int} {num den : Int} (h : ScaleP p num den) (k : Nat) (hk : k < p.length) : scalX (p[k]?.getD 0) num den k (p.length - 1) = scaleK p num den k := by
  rw [(scaleK_bd h k hk).1, scalX, Nat.min_eq_right (by omega), Int.mul_assoc, Int.mul_comm (powW den k), ← Int.mul_assoc]

/-- the cells of a row of the call's own. -/
theorem OwnI.cellsOf {w : World} {base e : Nat} {v : Value} {l : List Int} (h : OwnI e base w v l) (h0 : 0 < l.length) : ∃ g cap, v = .slice (some ⟨g, 0, none⟩) l.length cap ∧ base ≤ g ∧ l.length ≤ cap ∧ Cells w g l := by
  obtain ⟨g, cap, hv, hg, hc⟩ := own_cells h h0
  refine ⟨g, cap, hv, hg, ?_, fun j hj => ⟨hc j hj, ?_⟩⟩
  · rcases h.2 with ⟨e1, e2⟩ | ⟨g', cap', cur, e1, _, _, hle, _⟩
    · omega
    · rw [e1] at hv; cases hv; exact hle
  · rcases h.2 with ⟨e1, e2⟩ | ⟨g', cap', cur, e1, _, hh, _⟩
    · omega
    · rw [e1] at hv; cases hv
      exact Blk.frozen (vs := cur.toList) (by simpa [Blk] using hh) j
theorem Cells.intsC {w : World} {B cap : Nat} {l : List Int} (h : Cells w B l) (hc : l.length ≤ cap) : Ints w (.slice (some ⟨B, 0, none⟩) l.length cap) l :=
  ⟨_, cap, rfl, hc, fun _ => ⟨B, 0, rfl, fun j hj => by rw [Nat.zero_add]; exact (h j hj).1⟩⟩

set_option maxRecDepth 100000 in
set_option maxHeartbeats 4000000 in
theorem scaledR_any (v : Value) (p : List Int) (num den : Int) (w : World) (hv : Ints w v p) (hS : ScaleP p num den) :
    Calls Tryz.prog 96 #[v, .int .i64 num, .int .i64 den] w (GivesInts w (scaledW p num den)) := by
  obtain ⟨p1, p5⟩ := checkPolyE_ok hS.hp
  obtain ⟨b, o, cap, rfl, hc⟩ := (id hv).head (by omega)
  have HS := Lib.hid hS
  have hC := Lib.hid hc
  have hn := hS.hnum
  have hd := hS.hden
  have HX : Hid (∀ k, k < p.length → -100 ≤ p[k]?.getD 0 ∧ p[k]?.getD 0 ≤ 100) := Lib.hid fun k hk => by
    rw [List.getElem?_eq_getElem hk]; exact (checkPolyE_range hS.hp).1 _ (List.getElem_mem hk)
  have e0 : IntKind.i64.wrap ((p.length : Int) - 1) = (p.length : Int) - 1 := IntWalk.i64_in _ (by omega)
  obtain ⟨i0, hi, hz0, hz1, hz2⟩ := info_parts Tryz.infoInt
  clear hS hc
  go_enter Tryz.func96, Tryz.ntmps96
  go_wp2
  go_loopw [8, 9, 10] (fun vo va vk wr => ∃ k : Nat, k ≤ p.length ∧ vk = .int .i64 k ∧ va = .int .i64 (allK p num den k) ∧ OwnI 3 w.heap.size wr vo (upto (scaleK p num den) k) ∧ Below w.heap.size w wr) (fun _ _ vk _ => p.length - (intOf vk).toNat)
  case atStart => exact ⟨0, Nat.zero_le _, rfl, rfl, World.ownsRow_nil _ _ _ _, Below.refl _ _⟩
  case round =>
    obtain ⟨k, hk, rfl, rfl, hown, hbr⟩ := hrel
    by_cases hlt : k < p.length
    · have cA := cellb (hC.out k hlt) hbr
      have hx := HX.out k hlt
      have hend := Lib.hid (scalX_end HS.out k hlt)
      have hsk := (scaleK_bd HS.out k hlt).2
      have hak := allK_bd HS.out k (by omega)
      have d1 : (k : Int) ≤ (p.length : Int) - 1 := by omega
      have d2 : (k : Int) < (p.length : Int) := by omega
      generalize p[k]?.getD 0 = x at cA hx hend
      have HXX := Lib.hid hx
      have HN := Lib.hid hn
      have HD := Lib.hid hd
      obtain ⟨wo, rfl⟩ : ∃ wo, wo = wr := ⟨_, rfl⟩
      go_wp2
      go_loopw [11, 12] (fun vx vi wr2 => ∃ i : Nat, i ≤ p.length - 1 ∧ vi = .int .i64 i ∧ vx = .int .i64 (scalX x num den k i) ∧ Below wo.heap.size wo wr2) (fun _ vi _ => p.length - (intOf vi).toNat)
      case atStart => exact ⟨0, Nat.zero_le _, rfl, by simp [scalX, powW], Below.refl _ _⟩
      case round =>
        obtain ⟨i, hi1, rfl, rfl, hb2⟩ := hrel
        by_cases hin : i < p.length - 1
        · have d3 : (i : Int) < (p.length : Int) - 1 := by omega
          by_cases hik : i < k
          · have hs := scalX_den HXX.out HN.out HD.out (k := k) (i := i) (by omega) hik
            have d4 : (i : Int) < (k : Int) := by omega
            generalize scalX x num den k i = y at hs
            generalize hz : scalX x num den k (i + 1) = z at hs
            have HZ := Lib.hid hz
            clear hz
            go_wp2
            go_roundw
            case rel => exact ⟨i + 1, by omega, by go_num, by rw [HZ.out], hb2⟩
            case measure => simp [intOf]; omega
          · have hs := scalX_num HXX.out HN.out HD.out (k := k) (i := i) (by omega) hik
            have d4 : ¬ (i : Int) < (k : Int) := by omega
            generalize scalX x num den k i = y at hs
            generalize hz : scalX x num den k (i + 1) = z at hs
            have HZ := Lib.hid hz
            clear hz
            go_wp2
            go_roundw
            case rel => exact ⟨i + 1, by omega, by go_num, by rw [HZ.out], hb2⟩
            case measure => simp [intOf]; omega
        · obtain rfl : i = p.length - 1 := by omega
          have d3 : ¬ (((p.length - 1 : Nat) : Int)) < (p.length : Int) - 1 := by omega
          rw [hend.out]
          have hoq : OwnI 3 w.heap.size wr _ (upto (scaleK p num den) k) := hown.carry hb2
          have hbq := bthen hbr hb2
          have hsz := hbq.size
          have td := fun W => divisorR_any (allK p num den k) (scaleK p num den k) W (by omega) (by omega)
          have hA : commonW (allK p num den k) (scaleK p num den k) = allK p num den (k + 1) := rfl
          have hU : upto (scaleK p num den) (k + 1) = upto (scaleK p num den) k ++ [scaleK p num den k] := upto_succ _ _
          have hUl : (upto (scaleK p num den) k).length = k := upto_length _ _
          rw [hA] at td
          generalize hal : allK p num den (k + 1) = al1 at td
          have HAL := Lib.hid hal
          generalize allK p num den k = al at td
          generalize scaleK p num den k = sk at td hU
          generalize hl0 : upto (scaleK p num den) k = L at hoq hU hUl
          have TD := Lib.hid td
          have HU := Lib.hid hU
          have HUL := Lib.hid hUl
          clear td hU hUl hl0 hown hA hal
          go_wp2_with (at_builtin; refine wpList_append_own _ rfl _ _ 22 rfl w.heap.size 3 i0 (.int .i64 0) 1 8 Tryz.underlying22 hi hz0 hz1 hz2 rfl (by decide) _ _ _ rfl (hoq.alloc _) ⟨wr.heap.size, 0, none⟩ 1 1 [.int .i64 sk] rfl rfl (cell_one_new _ _ _) (by simp [Value.oneCell']) (by unfold maxLen; have := HUL.out; omega) (by have := HUL.out; omega) (by simp; omega) ?_; intro v' w5 hown5 hgrow5 _)
          have hb5 := below_own hbq hoq hgrow5
          refine (TD.out w5).mono ?_
          rintro e w6 ⟨rfl, hl6⟩
          have hown6 : OwnI 3 w.heap.size w6 v' (upto (scaleK p num den) (k + 1)) := by
            rw [HU.out]; unfold OwnI; rw [List.length_append, List.map_append]; exact own_below hown5 hl6
          have hb6 := bthen hb5 hl6
          clear hoq hgrow5 hown5
          go_wp2
          go_roundw
          case rel => exact ⟨k + 1, by omega, by go_num, by rw [HAL.out], hown6, hb6⟩
          case measure => simp [intOf]; omega
    · obtain rfl : k = p.length := by omega
      have hg1 := allK_pos HS.out
      have hg2 := (allK_bd HS.out p.length (Nat.le_refl _)).2
      have hUl : (upto (scaleK p num den) p.length).length = p.length := upto_length _ _
      obtain ⟨G, oc, rfl, hGb, hoc, hcc⟩ := hown.cellsOf (by rw [hUl]; omega)
      have hc0 : Cells wr G (divRow p num den (allK p num den p.length) 0) := by simpa [divRow, upto] using hcc
      rw [hUl] at hoc ⊢
      have d1 : ¬ (p.length : Int) ≤ (p.length : Int) - 1 := by omega
      obtain ⟨g, hgd⟩ : ∃ g, g = allK p num den p.length := ⟨_, rfl⟩
      rw [← hgd] at hc0 hg1 hg2 ⊢
      have HGD := Lib.hid hgd
      clear hgd hown hcc hUl
      go_wp2
      go_loopw [13] (fun vk wr2 => ∃ k : Nat, k ≤ p.length ∧ vk = .int .i64 k ∧ Below w.heap.size w wr2 ∧ Cells wr2 G (divRow p num den g k)) (fun vk _ => p.length - (intOf vk).toNat)
      case atStart => exact ⟨0, Nat.zero_le _, rfl, hbr, hc0⟩
      case round =>
        obtain ⟨k, hk, rfl, hb2, hcr⟩ := hrel
        by_cases hlt : k < p.length
        · have hdl := divRow_length p num den g k (by omega)
          have hco := (hcr k (by omega)).1
          have hfo := (hcr k (by omega)).2
          rw [divRow_get p num den g k hlt] at hco
          have hset := divRow_set p num den g k hlt
          have hb3 := (scaleK_bd HS.out k hlt).2
          have d2 : (k : Int) ≤ (p.length : Int) - 1 := by omega
          have d3 : (k : Int) < (p.length : Int) := by omega
          generalize scaleK p num den k = X at hco hset hb3
          have hq : (X.tdiv g).natAbs ≤ X.natAbs := by rw [Int.natAbs_tdiv]; exact Nat.div_le_self _ _
          rw [IntWalk.wrap64_in (X.tdiv g) (by omega)] at hset
          have HSet := Lib.hid hset
          have HDL := Lib.hid hdl
          clear hq
          have x1 : -6553600 ≤ X := by omega
          have x2 : X ≤ 6553600 := by omega
          clear hset hdl hb3 hc0
          go_wp2
          go_roundw
          case rel =>
            have h := Cells.set hcr k (by rw [HDL.out]; omega) (X.tdiv g)
            rw [HSet.out] at h
            exact ⟨k + 1, by omega, by go_num, hb2.setCell (p := ⟨G, k, none⟩) (by exact hGb) _, h⟩
          case measure => simp [intOf]; omega
        · obtain rfl : k = p.length := by omega
          have hfin : divRow p num den g p.length = scaledW p num den := by rw [HGD.out]; simp [divRow, scaledW, upto_length]
          rw [hfin] at hcr
          have hsl : (scaledW p num den).length = p.length := upto_length _ _
          have hi9 := Cells.intsC (cap := oc) hcr (by rw [hsl]; exact hoc)
          rw [hsl] at hi9
          have HI := Lib.hid hi9
          clear hfin hsl hcr hc0 hi9
          go_wp2
          go_ret
          exact ⟨⟨_, rfl, HI.out⟩, hb2⟩

end Go.Proofs.YtnlmaildmeihgaaGreatDoor

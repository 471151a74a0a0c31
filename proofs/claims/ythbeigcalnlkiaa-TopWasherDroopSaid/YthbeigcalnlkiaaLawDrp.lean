/- The law TopWasherDroop. -/
import Derived.Test.YthbeigcalnlkiaaDrpB
namespace Go.Proofs.Ythbeigcalnlkiaa
set_option linter.unusedSimpArgs false
set_option linter.unusedVariables false
open Go.RowKit

/-- a slice of bytes, empty or not. -/
def FallIs (w : World) (v : Value) (l : List Int) : Prop := ∃ a cap, v = .slice a l.length cap ∧ l.length ≤ cap ∧ (0 < l.length → ∃ b off, a = some ⟨b, off, none⟩ ∧ ∀ (j : Nat) (x : Int), l[j]? = some x → w.cell? ⟨b, off + j, none⟩ = some (.int .u8 x))
theorem Try.enterDroop1 (args : Array Value) (w : World) : Sem.run Try.prog (callFunc 5 args) w = .ok (.enter 5 args) w :=
  MuLone.run_callFunc_enter Try.func5 (by kernel_rfl) rfl args w

set_option maxRecDepth 100000 in
set_option maxHeartbeats 16000000 in
theorem drp_law (vf : Value) (l : List Int) (p0 p1 p2 x y z : Int) (w : World) (hf : FallIs w vf l) (hl8 : ∀ a ∈ l, 0 ≤ a ∧ a ≤ 255) (hp : (-128 ≤ p0 ∧ p0 ≤ 127) ∧ (-128 ≤ p1 ∧ p1 ≤ 127) ∧ (-128 ≤ p2 ∧ p2 ≤ 127))
    (hx : 0 ≤ x ∧ x ≤ 255) (hy : 0 ≤ y ∧ y ≤ 255) (hz : 0 ≤ z ∧ z ≤ 255) :
    Calls Try.prog 3 #[.agg #[vf, .int .i8 p0, .int .i8 p1, .int .i8 p2, .int .u8 x, .int .u8 y, .int .u8 z]] w fun e w' => e = .returned (.bool true) ∧ Below w.heap.size w w' := by
  have henter := Try.enterDroop1
  have HL8 := Lib.hid hl8
  have HP := Lib.hid hp
  obtain ⟨xa, ca, rfl, hca, hcs⟩ := hf
  have HCS := Lib.hid hcs
  clear hl8 hp hcs
  go_enter Try.func3, Try.ntmps3
  go_upto_region 1 with fail
  obtain ⟨W1, hW1⟩ : ∃ v, v = World.alloc w (Obj.cells #[.slice xa l.length ca, .int .i8 p0, .int .i8 p1, .int .i8 p2, .int .u8 x, .int .u8 y, .int .u8 z] 26) := ⟨_, rfl⟩
  have kW1 : Below w.heap.size w W1 := by rw [hW1]; exact below_new _ _
  have iW1 : Blk W1 (w.heap.size) 26 [.slice xa l.length ca, .int .i8 p0, .int .i8 p1, .int .i8 p2, .int .u8 x, .int .u8 y, .int .u8 z] := by rw [hW1]; exact Blk.new _ _ _
  have sW1 : W1.heap.size = w.heap.size + 1 := by rw [hW1]; simp
  rw [← hW1]
  clear hW1
  clear sW1
  have hB := kW1
  have iX := iW1
  clear kW1 iW1
  have e0 := iX.cell (j := 0) (v := .slice xa l.length ca) rfl
  by_cases hl1 : 1 ≤ l.length
  · by_cases hl3 : l.length ≤ 3
    · have d1 : ¬ (l.length : Int) < 1 := by omega
      have d2 : ¬ (3 : Int) < (l.length : Int) := by omega
      have d3 : decide ((l.length : Int) < 1) = false := decide_eq_false d1
      have d4 : decide ((3 : Int) < (l.length : Int)) = false := decide_eq_false d2
      have c4 := iX.cell (j := 4) (v := .int .u8 x) rfl
      have c5 := iX.cell (j := 5) (v := .int .u8 y) rfl
      have c6 := iX.cell (j := 6) (v := .int .u8 z) rfl
      have k1 : IntKind.i64.wrap x = x := IntWalk.i64_in _ (by omega)
      have k2 : IntKind.i64.wrap y = y := IntWalk.i64_in _ (by omega)
      have k3 : IntKind.i64.wrap z = z := IntWalk.i64_in _ (by omega)
      go_upto_region 3 with fail
      refine wp_region_held_drew (S := (fun w' => w'.cell? ⟨w.heap.size, 4, none⟩ = some (.int .u8 x) ∧ w'.cell? ⟨w.heap.size, 5, none⟩ = some (.int .u8 y) ∧ w'.cell? ⟨w.heap.size, 6, none⟩ = some (.int .u8 z))) (by kernel_rfl) ⟨cellb c4 (Below.refl _ _).drew, cellb c5 (Below.refl _ _).drew, cellb c6 (Below.refl _ _).drew⟩ (fun hHeld0 => ?_)
      obtain ⟨wzd, hwz⟩ : ∃ v, v = W1.drew := ⟨_, rfl⟩
      rw [← hwz] at hHeld0 ⊢
      have hbzd : Below W1.heap.size W1 wzd := by rw [hwz]; exact (Below.refl _ _).drew
      have hlzd : Below W1.heap.size W1 wzd := by rw [hwz]; exact (Below.refl _ _).drew
      have iX := iX.carry hlzd
      clear hwz hlzd
      refine wpAnyH_take (i := 0) (oi := { dst := some 37, op := Op.fieldAddr 26 (Operand.tmp 1) 2, type := 0, pos := "top05_wt47d.go:32", after := #[], guard := none }) (v := ?_) rfl (by kernel_rfl) (by kernel_rfl) (by kernel_rfl) (fun _ _ _ h => h) (Or.inl ⟨by rfl, ?_⟩) (by assumption) ?_
      rotate_left
      · (intro w hSw; (try dsimp only at hSw); go_simp); (try with_reducible rfl)
      try simp only [Act.put, List.setIfInBounds_toArray, List.set_cons_zero, List.set_cons_succ]
      refine wpAnyH_take (i := 1) (oi := { dst := some 38, op := Op.load 5 (Operand.tmp 37), type := 5, pos := "top05_wt47d.go:32", after := #[{ on := 0, ground := Ground.data }], guard := none }) (v := ?_) rfl (by kernel_rfl) (by kernel_rfl) (by kernel_rfl) (fun _ _ _ h => h) (Or.inl ⟨by rfl, ?_⟩) (by assumption) ?_
      rotate_left
      · (intro w hSw; (try dsimp only at hSw); go_simp); (try with_reducible rfl)
      try simp only [Act.put, List.setIfInBounds_toArray, List.set_cons_zero, List.set_cons_succ]
      refine wpAnyH_take (i := 2) (oi := { dst := some 39, op := Op.convert 5 3 (Operand.tmp 38), type := 3, pos := "top05_wt47d.go:32", after := #[{ on := 1, ground := Ground.data }], guard := none }) (v := ?_) rfl (by kernel_rfl) (by kernel_rfl) (by kernel_rfl) (fun _ _ _ h => h) (Or.inl ⟨by rfl, ?_⟩) (by assumption) ?_
      rotate_left
      · (intro w hSw; (try dsimp only at hSw); go_simp); (try with_reducible rfl)
      try simp only [Act.put, List.setIfInBounds_toArray, List.set_cons_zero, List.set_cons_succ]
      refine wpAnyH_take (i := 3) (oi := { dst := some 40, op := Op.binOp BinOp.rem 3 (Operand.tmp 39) (Operand.const (Value.int IntKind.i64 101)) 3, type := 3, pos := "top05_wt47d.go:32", after := #[{ on := 2, ground := Ground.data }], guard := none }) (v := ?_) rfl (by kernel_rfl) (by kernel_rfl) (by kernel_rfl) (fun _ _ _ h => h) (Or.inl ⟨by rfl, ?_⟩) (by assumption) ?_
      rotate_left
      · (intro w hSw; (try dsimp only at hSw); go_simp); (try with_reducible rfl)
      try simp only [Act.put, List.setIfInBounds_toArray, List.set_cons_zero, List.set_cons_succ]
      refine wpAnyH_take (i := 4) (oi := { dst := some 41, op := Op.fieldAddr 26 (Operand.tmp 1) 3, type := 0, pos := "top05_wt47d.go:32", after := #[{ on := 13, ground := Ground.gcOnly Departure.lateStores }], guard := none }) (v := ?_) rfl (by kernel_rfl) (by kernel_rfl) (by kernel_rfl) (fun _ _ _ h => h) (Or.inl ⟨by rfl, ?_⟩) (by assumption) ?_
      rotate_left
      · (intro w hSw; (try dsimp only at hSw); go_simp); (try with_reducible rfl)
      try simp only [Act.put, List.setIfInBounds_toArray, List.set_cons_zero, List.set_cons_succ]
      refine wpAnyH_take (i := 5) (oi := { dst := some 42, op := Op.load 5 (Operand.tmp 41), type := 5, pos := "top05_wt47d.go:32", after := #[{ on := 4, ground := Ground.data }, { on := 13, ground := Ground.gcOnly Departure.lateStores }], guard := none }) (v := ?_) rfl (by kernel_rfl) (by kernel_rfl) (by kernel_rfl) (fun _ _ _ h => h) (Or.inl ⟨by rfl, ?_⟩) (by assumption) ?_
      rotate_left
      · (intro w hSw; (try dsimp only at hSw); go_simp); (try with_reducible rfl)
      try simp only [Act.put, List.setIfInBounds_toArray, List.set_cons_zero, List.set_cons_succ]
      refine wpAnyH_take (i := 6) (oi := { dst := some 43, op := Op.convert 5 3 (Operand.tmp 42), type := 3, pos := "top05_wt47d.go:32", after := #[{ on := 5, ground := Ground.data }, { on := 13, ground := Ground.gcOnly Departure.lateStores }], guard := none }) (v := ?_) rfl (by kernel_rfl) (by kernel_rfl) (by kernel_rfl) (fun _ _ _ h => h) (Or.inl ⟨by rfl, ?_⟩) (by assumption) ?_
      rotate_left
      · (intro w hSw; (try dsimp only at hSw); go_simp); (try with_reducible rfl)
      try simp only [Act.put, List.setIfInBounds_toArray, List.set_cons_zero, List.set_cons_succ]
      refine wpAnyH_take (i := 7) (oi := { dst := some 44, op := Op.binOp BinOp.rem 3 (Operand.tmp 43) (Operand.const (Value.int IntKind.i64 101)) 3, type := 3, pos := "top05_wt47d.go:32", after := #[{ on := 6, ground := Ground.data }, { on := 13, ground := Ground.gcOnly Departure.lateStores }], guard := none }) (v := ?_) rfl (by kernel_rfl) (by kernel_rfl) (by kernel_rfl) (fun _ _ _ h => h) (Or.inl ⟨by rfl, ?_⟩) (by assumption) ?_
      rotate_left
      · (intro w hSw; (try dsimp only at hSw); go_simp); (try with_reducible rfl)
      try simp only [Act.put, List.setIfInBounds_toArray, List.set_cons_zero, List.set_cons_succ]
      refine wpAnyH_take (i := 8) (oi := { dst := some 45, op := Op.fieldAddr 26 (Operand.tmp 1) 4, type := 0, pos := "top05_wt47d.go:32", after := #[{ on := 14, ground := Ground.gcOnly Departure.lateStores }], guard := none }) (v := ?_) rfl (by kernel_rfl) (by kernel_rfl) (by kernel_rfl) (fun _ _ _ h => h) (Or.inl ⟨by rfl, ?_⟩) (by assumption) ?_
      rotate_left
      · (intro w hSw; (try dsimp only at hSw); go_simp); (try with_reducible rfl)
      try simp only [Act.put, List.setIfInBounds_toArray, List.set_cons_zero, List.set_cons_succ]
      refine wpAnyH_take (i := 9) (oi := { dst := some 46, op := Op.load 5 (Operand.tmp 45), type := 5, pos := "top05_wt47d.go:32", after := #[{ on := 8, ground := Ground.data }, { on := 14, ground := Ground.gcOnly Departure.lateStores }], guard := none }) (v := ?_) rfl (by kernel_rfl) (by kernel_rfl) (by kernel_rfl) (fun _ _ _ h => h) (Or.inl ⟨by rfl, ?_⟩) (by assumption) ?_
      rotate_left
      · (intro w hSw; (try dsimp only at hSw); go_simp); (try with_reducible rfl)
      try simp only [Act.put, List.setIfInBounds_toArray, List.set_cons_zero, List.set_cons_succ]
      refine wpAnyH_take (i := 10) (oi := { dst := some 47, op := Op.convert 5 3 (Operand.tmp 46), type := 3, pos := "top05_wt47d.go:32", after := #[{ on := 9, ground := Ground.data }, { on := 14, ground := Ground.gcOnly Departure.lateStores }], guard := none }) (v := ?_) rfl (by kernel_rfl) (by kernel_rfl) (by kernel_rfl) (fun _ _ _ h => h) (Or.inl ⟨by rfl, ?_⟩) (by assumption) ?_
      rotate_left
      · (intro w hSw; (try dsimp only at hSw); go_simp); (try with_reducible rfl)
      try simp only [Act.put, List.setIfInBounds_toArray, List.set_cons_zero, List.set_cons_succ]
      refine wpAnyH_take (i := 11) (oi := { dst := some 48, op := Op.binOp BinOp.rem 3 (Operand.tmp 47) (Operand.const (Value.int IntKind.i64 20)) 3, type := 3, pos := "top05_wt47d.go:32", after := #[{ on := 10, ground := Ground.data }, { on := 14, ground := Ground.gcOnly Departure.lateStores }], guard := none }) (v := ?_) rfl (by kernel_rfl) (by kernel_rfl) (by kernel_rfl) (fun _ _ _ h => h) (Or.inl ⟨by rfl, ?_⟩) (by assumption) ?_
      rotate_left
      · (intro w hSw; (try dsimp only at hSw); go_simp); (try with_reducible rfl)
      try simp only [Act.put, List.setIfInBounds_toArray, List.set_cons_zero, List.set_cons_succ]
      refine wpAnyH_take (i := 12) (oi := { dst := some 49, op := Op.binOp BinOp.add 3 (Operand.const (Value.int IntKind.i64 1)) (Operand.tmp 48) 3, type := 3, pos := "top05_wt47d.go:32", after := #[{ on := 11, ground := Ground.data }, { on := 14, ground := Ground.gcOnly Departure.lateStores }], guard := none }) (v := ?_) rfl (by kernel_rfl) (by kernel_rfl) (by kernel_rfl) (fun _ _ _ h => h) (Or.inl ⟨by rfl, ?_⟩) (by assumption) ?_
      rotate_left
      · (intro w hSw; (try dsimp only at hSw); go_simp); (try with_reducible rfl)
      try simp only [Act.put, List.setIfInBounds_toArray, List.set_cons_zero, List.set_cons_succ]
      refine wpAnyH_take (i := 13) (oi := { dst := some 3, op := Op.assign (Operand.tmp 40), type := 3, pos := "top05_wt47d.go:32", after := #[{ on := 3, ground := Ground.data }, { on := 0, ground := Ground.phase }, { on := 1, ground := Ground.phase }, { on := 2, ground := Ground.phase }, { on := 3, ground := Ground.phase }, { on := 4, ground := Ground.textOnly Departure.lateStores }, { on := 5, ground := Ground.textOnly Departure.lateStores }, { on := 6, ground := Ground.textOnly Departure.lateStores }, { on := 7, ground := Ground.textOnly Departure.lateStores }, { on := 8, ground := Ground.textOnly Departure.lateStores }, { on := 9, ground := Ground.textOnly Departure.lateStores }, { on := 10, ground := Ground.textOnly Departure.lateStores }, { on := 11, ground := Ground.textOnly Departure.lateStores }, { on := 12, ground := Ground.textOnly Departure.lateStores }], guard := none }) (v := ?_) rfl (by kernel_rfl) (by kernel_rfl) (by kernel_rfl) (fun _ _ _ h => h) (Or.inl ⟨by rfl, ?_⟩) (by assumption) ?_
      rotate_left
      · (intro w hSw; (try dsimp only at hSw); go_simp); (try with_reducible rfl)
      try simp only [Act.put, List.setIfInBounds_toArray, List.set_cons_zero, List.set_cons_succ]
      refine wpAnyH_take (i := 14) (oi := { dst := some 4, op := Op.assign (Operand.tmp 44), type := 3, pos := "top05_wt47d.go:32", after := #[{ on := 7, ground := Ground.data }, { on := 13, ground := Ground.chain }, { on := 0, ground := Ground.phase }, { on := 1, ground := Ground.phase }, { on := 2, ground := Ground.phase }, { on := 3, ground := Ground.phase }, { on := 4, ground := Ground.phase }, { on := 5, ground := Ground.phase }, { on := 6, ground := Ground.phase }, { on := 7, ground := Ground.phase }, { on := 8, ground := Ground.textOnly Departure.lateStores }, { on := 9, ground := Ground.textOnly Departure.lateStores }, { on := 10, ground := Ground.textOnly Departure.lateStores }, { on := 11, ground := Ground.textOnly Departure.lateStores }, { on := 12, ground := Ground.textOnly Departure.lateStores }, { on := 13, ground := Ground.phase }], guard := none }) (v := ?_) rfl (by kernel_rfl) (by kernel_rfl) (by kernel_rfl) (fun _ _ _ h => h) (Or.inl ⟨by rfl, ?_⟩) (by assumption) ?_
      rotate_left
      · (intro w hSw; (try dsimp only at hSw); go_simp); (try with_reducible rfl)
      try simp only [Act.put, List.setIfInBounds_toArray, List.set_cons_zero, List.set_cons_succ]
      refine wpAnyH_take (i := 15) (oi := { dst := some 5, op := Op.assign (Operand.tmp 49), type := 3, pos := "top05_wt47d.go:32", after := #[{ on := 12, ground := Ground.data }, { on := 14, ground := Ground.chain }, { on := 0, ground := Ground.phase }, { on := 1, ground := Ground.phase }, { on := 2, ground := Ground.phase }, { on := 3, ground := Ground.phase }, { on := 4, ground := Ground.phase }, { on := 5, ground := Ground.phase }, { on := 6, ground := Ground.phase }, { on := 7, ground := Ground.phase }, { on := 8, ground := Ground.phase }, { on := 9, ground := Ground.phase }, { on := 10, ground := Ground.phase }, { on := 11, ground := Ground.phase }, { on := 12, ground := Ground.phase }, { on := 13, ground := Ground.phase }, { on := 14, ground := Ground.phase }], guard := none }) (v := ?_) rfl (by kernel_rfl) (by kernel_rfl) (by kernel_rfl) (fun _ _ _ h => h) (Or.inl ⟨by rfl, ?_⟩) (by assumption) ?_
      rotate_left
      · (intro w hSw; (try dsimp only at hSw); go_simp); (try with_reducible rfl)
      try simp only [Act.put, List.setIfInBounds_toArray, List.set_cons_zero, List.set_cons_succ]
      refine wpAnyH_done (by kernel_rfl) ?_ _
      clear hHeld0
      replace hB := bthen hB hbzd
      obtain ⟨w1, hw1⟩ : ∃ v, v = wzd := ⟨_, rfl⟩
      rw [← hw1] at hB iX ⊢
      clear hw1
      clear c4 c5 c6 d1 d2 d3 d4 e0
      have hVb : 0 ≤ x.tmod 101 ∧ x.tmod 101 ≤ 100 := by rw [Int.tmod_eq_emod_of_nonneg hx.1]; omega
      have hOb : 0 ≤ y.tmod 101 ∧ y.tmod 101 ≤ 100 := by rw [Int.tmod_eq_emod_of_nonneg hy.1]; omega
      have hDb : 1 ≤ IntKind.i64.wrap (1 + z.tmod 20) ∧ IntKind.i64.wrap (1 + z.tmod 20) ≤ 20 := by
        have h1 : 0 ≤ z.tmod 20 ∧ z.tmod 20 ≤ 19 := by rw [Int.tmod_eq_emod_of_nonneg hz.1]; omega
        rw [IntWalk.i64_in _ (by omega)]; omega
      generalize IntKind.i64.wrap (1 + z.tmod 20) = D at hDb ⊢
      generalize z.tmod 20 = zz
      generalize x.tmod 101 = V at hVb ⊢
      generalize y.tmod 101 = O at hOb ⊢
      clear k1 k2 k3 hx hy hz
      obtain ⟨b, off, rfl, hcs⟩ := HCS.out (by omega)
      have HCS2 := Lib.hid hcs
      clear hcs HCS
      have HXX := Lib.hid iX
      have hbytes : BytesIs w1 (.slice (some ⟨b, off, none⟩) l.length ca) l := ⟨b, off, ca, rfl, hca, fun j x hx => cellb (HCS2.out j x hx) hB⟩
      have HBY := Lib.hid hbytes
      clear hbytes
      have e0 := iX.cell (j := 0) (v := .slice (some ⟨b, off, none⟩) l.length ca) rfl
      go_wp2_with fail
      clear e0
      go_loopw [7, 8, 54] (fun v7 v8 v54 wr => ∃ k : Nat, k ≤ l.length ∧ v54 = .int .i64 k ∧ v7 = .int .i64 (tot (drpL l p0 p1 p2 k) V) ∧ v8 = .int .i64 (fallL (drpL l p0 p1 p2 k)) ∧ wr = w1) (fun _ _ v54 _ => l.length - (intOf v54).toNat)
      case atStart => exact ⟨0, by omega, rfl, rfl, rfl, by first | rfl | trivial⟩
      case round =>
        obtain ⟨k, hk, rfl, rfl, rfl, rfl⟩ := hrel
        have hok := drpL_ok (l := l) (p0 := p0) (p1 := p1) (p2 := p2) ⟨hl1, hl3⟩ HL8.out HP.out
        have hT := tot_bd hok hVb k (by rw [drpL_length]; exact hk)
        rw [drpL_take hk] at hT
        have hF := drp_fall_bd (l := l) (p0 := p0) (p1 := p1) (p2 := p2) k
        by_cases hlt : k < l.length
        · obtain ⟨a, ha⟩ : ∃ a, l[k]? = some a := ⟨_, List.getElem?_eq_getElem hlt⟩
          have hc := cellb (HCS2.out k a ha) hB
          have hab := HL8.out a (List.mem_of_getElem? ha)
          obtain ⟨pk, hpk⟩ : ∃ pk, pk = pow3 p0 p1 p2 k := ⟨_, rfl⟩
          have hq : wr.cell? ⟨w.heap.size, 1 + k, none⟩ = some (.int .i8 pk) := by
            obtain rfl | rfl | rfl : k = 0 ∨ k = 1 ∨ k = 2 := by omega
            all_goals (rw [hpk]; exact iX.cell rfl)
          have hpb : -128 ≤ pk ∧ pk ≤ 127 := by
            have := HP.out
            rw [hpk]
            obtain rfl | rfl | rfl : k = 0 ∨ k = 1 ∨ k = 2 := by omega
            all_goals (simp only [pow3]; omega)
          have hfb : 1 ≤ 1 + a % 5 ∧ 1 + a % 5 ≤ 5 := by omega
          have hmb := mulb (x := 1 + a % 5) (y := V) (A := 5) (B := 100) (by omega) (by omega)
          have hT2 : tot (drpL l p0 p1 p2 (k + 1)) V = tot (drpL l p0 p1 p2 k) V + (pk - (1 + a % 5) * V) := by
            rw [drpL_succ, tot_snoc, ha, hpk]; rfl
          have hF2 : fallL (drpL l p0 p1 p2 (k + 1)) = fallL (drpL l p0 p1 p2 k) + (1 + a % 5) := by
            rw [drpL_succ, fall_snoc, ha]; rfl
          obtain ⟨m, hm⟩ : ∃ m, m = (1 + a % 5) * V := ⟨_, rfl⟩
          have hm2 : wrap64 ((1 + a % 5) * V) = m := by rw [← hm] at hmb ⊢; unfold wrap64; omega
          rw [← hm] at hmb hT2
          have HT2 := Lib.hid hT2
          have HF2 := Lib.hid hF2
          generalize tot (drpL l p0 p1 p2 k) V = T at HT2 hT
          generalize fallL (drpL l p0 p1 p2 k) = Fk at HF2 hF
          have d1 : (k : Int) < (l.length : Int) := by omega
          have hk3 : (k : Int) < 3 := by omega
          clear hpk ha hm hT2 hF2 hok
          go_wp2_with fail
          go_roundw
          case rel => exact ⟨k + 1, by omega, by go_num, by rw [HT2.out], by rw [HF2.out], by first | rfl | trivial⟩
          case measure => simp [intOf]; omega
        · obtain rfl : k = l.length := by omega
          have hTF := fun n m => tot_fall (drpL l p0 p1 p2 l.length) n m
          have hlen := drpL_length l p0 p1 p2 l.length
          have HLN := Lib.hid (fun (W : World) (hb : Below wr.heap.size wr W) => lines_any w.heap.size _ l p0 p1 p2 x y z W (HXX.out.carry hb) (HBY.out.carry hb) ⟨hl1, hl3⟩ HL8.out HP.out)
          have HLEN := Lib.hid hlen
          have hOT := tot_bd hok hOb l.length (by rw [hlen]; exact Nat.le_refl _)
          rw [drpL_take (Nat.le_refl _)] at hOT
          have HTB := Lib.hid (fun k hk => tot_bd hok hOb k hk)
          have HFB := Lib.hid hF
          generalize drpL l p0 p1 p2 l.length = LS at hok hT hF hTF hlen HLN HLEN hOT HTB HFB ⊢
          have hTF2 := hTF O V
          have hFV := mulb (x := fallL LS) (y := V - O) (A := 15) (B := 100) (by omega) (by omega)
          obtain ⟨LD, hLD⟩ : ∃ LD, LD = tot LS V := ⟨_, rfl⟩
          obtain ⟨SM, hSM⟩ : ∃ SM, SM = tot LS O := ⟨_, rfl⟩
          obtain ⟨F, hFe⟩ : ∃ F, F = fallL LS := ⟨_, rfl⟩
          rw [← hLD, ← hSM, ← hFe] at hTF2
          rw [← hFe] at hF hFV
          rw [← hLD] at hT
          rw [← hSM] at hOT
          rw [← hLD, ← hFe]
          have hF15 : 1 ≤ F ∧ F ≤ 15 := by omega
          have hTb : -3000 ≤ LD ∧ LD ≤ 3000 := by omega
          have hOTb : -3000 ≤ SM ∧ SM ≤ 3000 := by omega
          have HOK := Lib.hid hok
          have HLD := Lib.hid hLD
          have HSM := Lib.hid hSM
          have TX := Lib.hid (fun (u : Value) (W : World) (h : LinesIs W u 100 LS) => Crossing_any u 100 V LD LS W h hok hVb hLD)
          have HVO := Lib.hid hVb
          have HTF := Lib.hid hTF2
          have HFV := Lib.hid hFV
          clear hok hT hF hTF hlen hOT hTF2 hFV hLD hSM hFe HFB HCS2
          obtain ⟨ws, rfl⟩ : ∃ v, v = wr := ⟨_, rfl⟩
          go_wp2_with fail
          refine (HLN.out ws (Below.refl _ _)).mono ?_
          rintro e w2 ⟨⟨u, rfl, hu⟩, hl⟩
          obtain ⟨b2, off2, cap2, rfl, hc2, _⟩ := id hu
          go_wp2_with fail
          refine (TX.out _ w2 hu).mono ?_
          rintro e w3 ⟨rfl, hl2⟩
          replace hl := bthen hl hl2
          clear hl2 hu
          go_upto_region 14 with fail
          obtain ⟨W4, hW4⟩ : ∃ v, v = World.alloc w3 (Obj.cells #[.int .i64 V, .int .i64 1] 35) := ⟨_, rfl⟩
          have kW4 : Below w3.heap.size w3 W4 := by rw [hW4]; exact below_new _ _
          have iW4 : Blk W4 (w3.heap.size) 35 [.int .i64 V, .int .i64 1] := by rw [hW4]; exact Blk.new _ _ _
          have sW4 : W4.heap.size = w3.heap.size + 1 := by rw [hW4]; simp
          rw [← hW4]
          clear hW4
          clear sW4
          have iR := iW4
          replace hl := bthen hl kW4
          generalize w3.heap.size = G at iR ⊢
          clear kW4 iW4
          have r0 := iR.cell (j := 0) (v := .int .i64 V) rfl
          have r1 := iR.cell (j := 1) (v := .int .i64 1) rfl
          have hne := neqRatio V 1
          go_wp2_with fail
          clear hne r0 r1 iR
          refine (HLN.out W4 hl).mono ?_
          rintro e w5 ⟨⟨u2, rfl, hu2⟩, hl2⟩
          replace hB := bthen (bthen hB hl) hl2
          clear hl hl2 HXX HBY iX
          obtain ⟨b3, off3, cap3, rfl, hc3, hls⟩ := id hu2
          have HLS := Lib.hid hls
          clear hls hu2
          have hL3 : LS.length ≤ 3 := by rw [HLEN.out]; exact hl3
          obtain ⟨wt, rfl⟩ : ∃ v, v = w5 := ⟨_, rfl⟩
          go_wp2_with fail
          go_loopw [14, 96] (fun v14 v96 wr => ∃ k : Nat, k ≤ LS.length ∧ v96 = .int .i64 k ∧ v14 = .int .i64 (tot (LS.take k) O) ∧ Below wt.heap.size wt wr) (fun _ v96 _ => LS.length - (intOf v96).toNat)
          case atStart => exact ⟨0, by omega, rfl, rfl, Below.refl _ _⟩
          case round =>
            obtain ⟨k, hk, rfl, rfl, hbr⟩ := hrel
            by_cases hlt : k < LS.length
            · obtain ⟨q, hqx⟩ : ∃ q, LS[k]? = some q := ⟨_, List.getElem?_eq_getElem hlt⟩
              obtain ⟨uq, huq, hlq⟩ := HLS.out k q hqx
              replace huq := cellb huq hbr
              have hb := HOK.out.each q (List.mem_of_getElem? hqx)
              have TA := Lib.hid (At_any uq 100 q.1 q.2 O wr (hlq.carry hbr) HOK.out.v ⟨hb.1, hb.2.1⟩ ⟨hb.2.2.1, hb.2.2.2.1⟩ hb.2.2.2.2 hOb)
              obtain ⟨qb, qo, qc, rfl, _⟩ := id hlq
              have t1 := HTB.out k hk
              have t2 := HTB.out (k + 1) hlt
              have hS2 : tot (LS.take (k + 1)) O = tot (LS.take k) O + (q.1 - q.2 * O) := by
                rw [List.take_add_one, hqx, show (some q).toList = [q] from rfl, tot_snoc]
              rw [hS2] at t2
              have HS2 := Lib.hid hS2
              generalize tot (LS.take k) O = S at HS2 t1 t2
              generalize q.1 - q.2 * O = R at TA HS2 t2
              have d1 : (k : Int) < (LS.length : Int) := by omega
              clear hlq hqx hb hS2
              go_wp2_with fail
              refine TA.out.mono ?_
              rintro e w6 ⟨rfl, hl⟩
              clear huq
              go_upto_region 21 with fail
              obtain ⟨W7, hW7⟩ : ∃ v, v = World.alloc w6 (Obj.cells #[.int .i64 R, .int .i64 1] 35) := ⟨_, rfl⟩
              have kW7 : Below w6.heap.size w6 W7 := by rw [hW7]; exact below_new _ _
              have iW7 : Blk W7 (w6.heap.size) 35 [.int .i64 R, .int .i64 1] := by rw [hW7]; exact Blk.new _ _ _
              have sW7 : W7.heap.size = w6.heap.size + 1 := by rw [hW7]; simp
              rw [← hW7]
              clear hW7
              clear sW7
              have r0 := iW7.cell (j := 0) (v := .int .i64 R) rfl
              have r1 := iW7.cell (j := 1) (v := .int .i64 1) rfl
              replace hbr := bthen hbr (bthen hl kW7)
              clear hl kW7 iW7
              go_wp2_with fail
              go_roundw
              case rel => exact ⟨k + 1, by omega, by go_num, by rw [HS2.out], hbr⟩
              case measure => simp [intOf]; omega
            · obtain rfl : k = LS.length := by omega
              have d1 : ¬ (LS.length : Int) < (LS.length : Int) := by omega
              rw [List.take_length, ← HSM.out]
              replace hB := bthen hB hbr
              clear hbr HTB HLS TX HLN
              have hmul : wrap64 (-F * (O - V)) = SM - LD := by
                have h1 := HTF.out
                have h2 := HFV.out
                rw [h1, Int.neg_mul, ← Int.mul_neg, show -(O - V) = V - O by omega]
                generalize F * (V - O) = m at h2
                unfold wrap64; omega
              obtain ⟨wv, rfl⟩ : ∃ v, v = wr := ⟨_, rfl⟩
              go_wp2_with fail
              obtain ⟨q1, q2, q3, q4⟩ := drp_loop hF15 hDb
              have hdev : -100 ≤ O - V ∧ O - V ≤ 100 := by omega
              obtain ⟨t1, t2⟩ := drp_steps (q := F - D) (D := D) (dev := O - V) q3 (by omega) (by omega)
              have hDm := mulb (x := D) (y := O - V) (A := 20) (B := 100) (by omega) (by omega)
              have hlast : -((F - D) * (O - V)) = D * (O - V) + (SM - LD) := by
                rw [HTF.out, Int.sub_mul, show V - O = -(O - V) by omega, Int.mul_neg]; omega
              rw [hlast] at t1
              obtain ⟨MD, hMD⟩ : ∃ MD, MD = D * (O - V) := ⟨_, rfl⟩
              rw [← hMD] at hDm t1
              have hDm2 : wrap64 (D * (O - V)) = MD := by rw [← hMD]; unfold wrap64; omega
              obtain ⟨Q1, hQ1⟩ : ∃ v, v = World.alloc wv (Obj.cells #[.int .i64 F] 3) := ⟨_, rfl⟩
              have kQ1 : Below wv.heap.size wv Q1 := by rw [hQ1]; exact below_new _ _
              have iQ1 : Blk Q1 (wv.heap.size) 3 [.int .i64 F] := by rw [hQ1]; exact Blk.new _ _ _
              have sQ1 : Q1.heap.size = wv.heap.size + 1 := by rw [hQ1]; simp
              rw [← hQ1]
              clear hQ1
              obtain ⟨Q2, hQ2⟩ : ∃ v, v = World.alloc Q1 (Obj.cells #[.int .i64 (-D), .int .i64 D] 3) := ⟨_, rfl⟩
              have kQ2 : Below Q1.heap.size Q1 Q2 := by rw [hQ2]; exact below_new _ _
              have iQ2 : Blk Q2 (wv.heap.size + 1) 3 [.int .i64 (-D), .int .i64 D] := by rw [hQ2, ← sQ1]; exact Blk.new _ _ _
              have sQ2 : Q2.heap.size = wv.heap.size + 1 + 1 := by rw [hQ2]; simp [sQ1]
              rw [← hQ2]
              clear hQ2
              obtain ⟨Q3, hQ3⟩ : ∃ v, v = World.alloc Q2 (Obj.cells #[.int .i64 1] 3) := ⟨_, rfl⟩
              have kQ3 : Below Q2.heap.size Q2 Q3 := by rw [hQ3]; exact below_new _ _
              have iQ3 : Blk Q3 (wv.heap.size + 1 + 1) 3 [.int .i64 1] := by rw [hQ3, ← sQ2]; exact Blk.new _ _ _
              have sQ3 : Q3.heap.size = wv.heap.size + 1 + 1 + 1 := by rw [hQ3]; simp [sQ2]
              rw [← hQ3]
              clear hQ3
              obtain ⟨Q4, hQ4⟩ : ∃ v, v = World.alloc Q3 (Obj.cells #[.int .i64 1] 3) := ⟨_, rfl⟩
              have kQ4 : Below Q3.heap.size Q3 Q4 := by rw [hQ4]; exact below_new _ _
              have iQ4 : Blk Q4 (wv.heap.size + 1 + 1 + 1) 3 [.int .i64 1] := by rw [hQ4, ← sQ3]; exact Blk.new _ _ _
              have sQ4 : Q4.heap.size = wv.heap.size + 1 + 1 + 1 + 1 := by rw [hQ4]; simp [sQ3]
              rw [← hQ4]
              clear hQ4
              clear sQ1 sQ2 sQ3 sQ4
              have j1 : Ints Q4 (.slice (some ⟨wv.heap.size, 0, none⟩) 1 1) [F] := (BlkI.ints (l := [F]) iQ1 rfl).carry (bthen kQ2 (bthen kQ3 kQ4))
              have j2 : Ints Q4 (.slice (some ⟨wv.heap.size + 1, 0, none⟩) 2 2) [-D, D] := (BlkI.ints (l := [-D, D]) iQ2 rfl).carry (bthen kQ3 kQ4)
              have j3 : Ints Q4 (.slice (some ⟨wv.heap.size + 1 + 1, 0, none⟩) 1 1) [1] := (BlkI.ints (l := [1]) iQ3 rfl).carry kQ4
              have j4 : Ints Q4 (.slice (some ⟨wv.heap.size + 1 + 1 + 1, 0, none⟩) 1 1) [1] := BlkI.ints (l := [1]) iQ4 rfl
              replace hB := bthen hB (bthen kQ1 (bthen kQ2 (bthen kQ3 kQ4)))
              have tc := Closed_any _ _ _ _ [F] [-D, D] [1] [1] Q4 j1 j2 j3 j4 (by simp) (by simp) (by simp) (by simp)
              rw [q1, q2] at tc
              have TST := Lib.hid (fun u W (h : Ints W u [F - D, D]) => Stable_any u [F - D, D] W h (by simp))
              rw [q4, q3] at TST
              have TSP := Lib.hid (fun u v W (h : Ints W u [F - D, D]) (h2 : Ints W v [O - V]) => Stepped_any u v [F - D, D] [O - V] 1 W h h2 (by simp) (by simp))
              rw [t1, t2] at TSP
              clear kQ1 kQ2 kQ3 kQ4 iQ1 iQ2 iQ3 iQ4 j1 j2 j3 j4 q1 q2 q3 q4 t1 t2 hlast hMD hmul d1
              refine tc.mono ?_
              clear tc
              rintro e w8 ⟨⟨uc, rfl, huc⟩, hl⟩
              replace hB := bthen hB hl
              clear hl
              obtain ⟨gb, go, gc, rfl, hgc⟩ := huc.head (by simp)
              have g0 := hgc 0 (by simp)
              have g1 := hgc 1 (by simp)
              simp only [List.getElem?_cons_succ, List.getElem?_cons_zero, Option.getD_some, List.length_cons, List.length_nil, Nat.zero_add, Nat.reduceAdd, Nat.add_zero] at g0 g1 huc ⊢
              clear hgc
              obtain ⟨i0, hi, hz0, hz1, hz2⟩ := info_parts Try.infoInt
              have kA := below_new w8 (Obj.cells #[] 3)
              have HUC := Lib.hid huc
              clear huc
              by_cases hst : F < 2 * D
              · rw [decide_eq_true hst] at TST
                have hst3 : decide (F < 2 * D) = true := decide_eq_true hst
                go_wp2_with (at_builtin; go_loud (refine wpList_append_freshI rfl (.tmp 166) (.tmp 167) 41 41 3 rfl i0 (.int .i64 0) Try.underlying41 Try.underlying41 hi hz0 hz1 hz2 rfl w8.heap.size (Blk.new w8 _ []) rfl _ [F - D, D] rfl (HUC.out.carry kA) (by simp) ?_; intro u1 wA hu1 hbA))
                replace hB := bthen (bthen hB kA) hbA
                replace HUC := Lib.hid ((HUC.out.carry kA).carry hbA)
                clear hbA kA g0 g1
                refine (TST.out u1 wA hu1.ints).mono ?_
                rintro e wB ⟨rfl, hl⟩
                replace hB := bthen hB hl
                replace HUC := Lib.hid (HUC.out.carry hl)
                clear hl hu1 TST
                have kA := below_new wB (Obj.cells #[] 3)
                go_wp2_with (at_builtin; go_loud (refine wpList_append_freshI rfl (.tmp 173) (.tmp 174) 41 41 3 rfl i0 (.int .i64 0) Try.underlying41 Try.underlying41 hi hz0 hz1 hz2 rfl wB.heap.size (Blk.new wB _ []) rfl _ [F - D, D] rfl (HUC.out.carry kA) (by simp) ?_; intro u3 wC hu3 hbC))
                replace hB := bthen (bthen hB kA) hbC
                clear hbC kA HUC
                obtain ⟨Q5, hQ5⟩ : ∃ v, v = World.alloc wC (Obj.cells #[.int .i64 (O - V)] 3) := ⟨_, rfl⟩
                have kQ5 : Below wC.heap.size wC Q5 := by rw [hQ5]; exact below_new _ _
                have iQ5 : Blk Q5 (wC.heap.size) 3 [.int .i64 (O - V)] := by rw [hQ5]; exact Blk.new _ _ _
                have sQ5 : Q5.heap.size = wC.heap.size + 1 := by rw [hQ5]; simp
                rw [← hQ5]
                clear hQ5
                clear sQ5
                refine (TSP.out u3 _ Q5 (hu3.ints.carry kQ5) (BlkI.ints (l := [O - V]) iQ5 rfl)).mono ?_
                rintro e wD ⟨⟨uq, rfl, huq⟩, hl⟩
                replace hB := bthen hB (bthen kQ5 hl)
                clear hl kQ5 iQ5 hu3 TSP
                obtain ⟨gb2, go2, gc2, rfl, hgc⟩ := huq.head (by simp)
                have g0 := hgc 0 (by simp)
                have g1 := hgc 1 (by simp)
                simp only [List.getElem?_cons_succ, List.getElem?_cons_zero, Option.getD_some, List.length_cons, List.length_nil, Nat.zero_add, Nat.reduceAdd, Nat.add_zero] at g0 g1 ⊢
                clear hgc huq
                go_wp2_with fail
                refine (washerDroop_any wD).mono ?_
                rintro e wE ⟨rfl, hl⟩
                go_wp2_with fail
                go_ret
                exact ⟨rfl, bthen hB hl⟩
              · rw [decide_eq_false hst] at TST
                have hst3 : decide (F < 2 * D) = false := decide_eq_false hst
                go_wp2_with (at_builtin; go_loud (refine wpList_append_freshI rfl (.tmp 166) (.tmp 167) 41 41 3 rfl i0 (.int .i64 0) Try.underlying41 Try.underlying41 hi hz0 hz1 hz2 rfl w8.heap.size (Blk.new w8 _ []) rfl _ [F - D, D] rfl (HUC.out.carry kA) (by simp) ?_; intro u1 wA hu1 hbA))
                replace hB := bthen (bthen hB kA) hbA
                replace HUC := Lib.hid ((HUC.out.carry kA).carry hbA)
                clear hbA kA g0 g1
                refine (TST.out u1 wA hu1.ints).mono ?_
                rintro e wB ⟨rfl, hl⟩
                replace hB := bthen hB hl
                replace HUC := Lib.hid (HUC.out.carry hl)
                clear hl hu1 TST
                have kA := below_new wB (Obj.cells #[] 3)
                go_wp2_with (at_builtin; go_loud (refine wpList_append_freshI rfl (.tmp 173) (.tmp 174) 41 41 3 rfl i0 (.int .i64 0) Try.underlying41 Try.underlying41 hi hz0 hz1 hz2 rfl wB.heap.size (Blk.new wB _ []) rfl _ [F - D, D] rfl (HUC.out.carry kA) (by simp) ?_; intro u3 wC hu3 hbC))
                replace hB := bthen (bthen hB kA) hbC
                clear hbC kA HUC
                obtain ⟨Q5, hQ5⟩ : ∃ v, v = World.alloc wC (Obj.cells #[.int .i64 (O - V)] 3) := ⟨_, rfl⟩
                have kQ5 : Below wC.heap.size wC Q5 := by rw [hQ5]; exact below_new _ _
                have iQ5 : Blk Q5 (wC.heap.size) 3 [.int .i64 (O - V)] := by rw [hQ5]; exact Blk.new _ _ _
                have sQ5 : Q5.heap.size = wC.heap.size + 1 := by rw [hQ5]; simp
                rw [← hQ5]
                clear hQ5
                clear sQ5
                refine (TSP.out u3 _ Q5 (hu3.ints.carry kQ5) (BlkI.ints (l := [O - V]) iQ5 rfl)).mono ?_
                rintro e wD ⟨⟨uq, rfl, huq⟩, hl⟩
                replace hB := bthen hB (bthen kQ5 hl)
                clear hl kQ5 iQ5 hu3 TSP
                obtain ⟨gb2, go2, gc2, rfl, hgc⟩ := huq.head (by simp)
                have g0 := hgc 0 (by simp)
                have g1 := hgc 1 (by simp)
                simp only [List.getElem?_cons_succ, List.getElem?_cons_zero, Option.getD_some, List.length_cons, List.length_nil, Nat.zero_add, Nat.reduceAdd, Nat.add_zero] at g0 g1 ⊢
                clear hgc huq
                go_wp2_with fail
                refine (washerDroop_any wD).mono ?_
                rintro e wE ⟨rfl, hl⟩
                go_wp2_with fail
                go_ret
                exact ⟨rfl, bthen hB hl⟩
    · have d1 : ¬ (l.length : Int) < 1 := by omega
      have d2 : (3 : Int) < (l.length : Int) := by omega
      have d3 : decide ((l.length : Int) < 1) = false := decide_eq_false d1
      have d4 : decide ((3 : Int) < (l.length : Int)) = true := decide_eq_true d2
      go_wp2_with fail
      refine (washerDroop_any W1).mono ?_
      rintro e w2 ⟨rfl, hl⟩
      go_wp2
      go_ret
      exact ⟨rfl, bthen hB hl⟩
  · have d1 : (l.length : Int) < 1 := by omega
    have d3 : decide ((l.length : Int) < 1) = true := decide_eq_true d1
    go_wp2_with fail
    refine (washerDroop_any W1).mono ?_
    rintro e w2 ⟨rfl, hl⟩
    go_wp2
    go_ret
    exact ⟨rfl, bthen hB hl⟩

end Go.Proofs.Ythbeigcalnlkiaa

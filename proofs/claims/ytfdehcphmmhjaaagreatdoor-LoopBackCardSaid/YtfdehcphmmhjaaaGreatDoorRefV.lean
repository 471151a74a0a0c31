/- The reference's times and plus. -/
import Derived.Test.YtfdehcphmmhjaaaGreatDoorRefB
import Derived.Test.YtfdehcphmmhjaaaGreatDoorLoopL
import Derived.Test.YtfdehcphmmhjaaaGreatDoorBlk
namespace Go.Proofs.YtfdehcphmmhjaaaGreatDoor
open Go.RowKit

set_option maxRecDepth 100000 in
set_option maxHeartbeats 4000000 in
theorem timesR_any (vp vq : Value) (p q : List Int) (w : World) (hp : Ints w vp p) (hq : Ints w vq q) (hp1 : 1 ≤ p.length) (hq1 : 1 ≤ q.length) (hp2 : p.length ≤ 1000000) (hq2 : q.length ≤ 1000000) :
    Calls Tryz.prog 91 #[vp, vq] w (GivesInts w (timesW p q)) := by
  obtain ⟨bp, op, cp, rfl, hpc⟩ := hp.head (by omega)
  obtain ⟨bq, oq, cq, rfl, hqc⟩ := hq.head (by omega)
  clear hp hq
  have hmk := run_make_row' (P := Tryz.prog) 22 3 (.int .i64 0) 8 Tryz.underlying22 Tryz.infoInt rfl .i64 .i64 (p.length + q.length - 1) (by omega) (by omega)
  rw [ia_made] at hmk
  rw [show ((p.length + q.length - 1 : Nat) : Int) = (p.length : Int) + (q.length : Int) - 1 from by omega] at hmk
  go_enter Tryz.func91, Tryz.ntmps91
  go_wp2
  clear hmk
  have hB0 := below_new w (.cells (ia (List.replicate (p.length + q.length - 1) 0)) 3)
  have hC0 := BlkI.new w 3 (List.replicate (p.length + q.length - 1) 0)
  have hz : (List.replicate (p.length + q.length - 1) (0 : Int)).length = p.length + q.length - 1 := by simp
  generalize hZ : List.replicate (p.length + q.length - 1) (0 : Int) = Z at hz hB0 hC0 ⊢
  have HZ := Lib.hid hZ
  have HZL := Lib.hid hz
  clear hZ hz
  obtain ⟨W, hW⟩ : ∃ W, W = w.alloc (.cells (ia Z) 3) := ⟨_, rfl⟩
  rw [← hW] at hB0 hC0 ⊢
  clear hW
  go_loopw [6] (fun vi wr => ∃ i : Nat, i ≤ p.length ∧ vi = .int .i64 i ∧ BlkI wr w.heap.size 3 (tOuter p q Z i) ∧ Below w.heap.size w wr) (fun vi _ => p.length - (intOf vi).toNat)
  case atStart => exact ⟨0, Nat.zero_le _, rfl, hC0, hB0⟩
  case round =>
    obtain ⟨i, hi, rfl, hco, hbo⟩ := hrel
    clear hC0 hB0
    by_cases hlt : i < p.length
    · have cA := hpc i hlt
      have hlen := tOuter_length p q Z i
      rw [HZL.out] at hlen
      generalize ho : tOuter p q Z i = out at hco hlen
      have HO := Lib.hid ho
      have HOL := Lib.hid hlen
      clear ho hlen
      generalize ha : p[i]?.getD 0 = a at cA
      have HA := Lib.hid ha
      clear ha
      go_wp2
      go_loopw [7] (fun vk wr => ∃ k : Nat, k ≤ q.length ∧ vk = .int .i64 k ∧ BlkI wr w.heap.size 3 (tInner q i a out k) ∧ Below w.heap.size w wr) (fun vk _ => q.length - (intOf vk).toNat)
      case atStart => exact ⟨0, Nat.zero_le _, rfl, hco, hbo⟩
      case round =>
        obtain ⟨k, hk, rfl, hcr, hbr⟩ := hrel
        by_cases hlk : k < q.length
        · have cB := hqc k hlk
          have hlen2 := tInner_length q i a out k
          rw [HOL.out] at hlen2
          have hnext : ∀ x, x = wrap64 ((tInner q i a out k)[i + k]?.getD 0 + wrap64 (a * q[k]?.getD 0)) → (tInner q i a out k).set (i + k) x = tInner q i a out (k + 1) := fun x hx => by rw [tInner, hx]
          have HN := Lib.hid hnext
          clear hnext hco
          generalize tInner q i a out k = o2 at hcr hlen2 HN
          generalize q[k]?.getD 0 = b at cB HN
          generalize hc : o2[i + k]?.getD 0 = c at HN
          have HC := Lib.hid hc
          clear hc
          have e1 : IntKind.i64.wrap ((i : Int) + (k : Int)) = (i : Int) + (k : Int) := IntWalk.i64_in _ (by omega)
          have g1 : (0 : Int) ≤ (i : Int) + (k : Int) := by omega
          have g2 : (i : Int) + (k : Int) < (p.length : Int) + (q.length : Int) - 1 := by omega
          have g2b : (i : Int) + (k : Int) < ((p.length + q.length - 1 : Nat) : Int) := by omega
          have g3 : ((i : Int) + (k : Int)).toNat = i + k := by omega
          have g4 : (i : Int) < (p.length : Int) := by omega
          have g5 : (k : Int) < (q.length : Int) := by omega
          have HL2 := Lib.hid hlen2
          clear hlen2
          go_wp2_with fail
          refine wp_region_held_drew (S := (fun w' => w'.cell? ⟨bp, op + i, none⟩ = some (.int .i64 a) ∧ w'.cell? ⟨bq, oq + k, none⟩ = some (.int .i64 b))) (by kernel_rfl) ⟨cellb cA hbr.drew, cellb cB hbr.drew⟩ (fun hHeld0 => ?_)
          obtain ⟨wzd, hwz⟩ : ∃ v, v = wr.drew := ⟨_, rfl⟩
          rw [← hwz] at hHeld0 ⊢
          have hbzd : Below w.heap.size w wzd := by rw [hwz]; exact hbr.drew
          have hlzd : Below wr.heap.size wr wzd := by rw [hwz]; exact (Below.refl _ _).drew
          have hcr := hcr.carry hlzd
          clear hwz hlzd
          refine wpAnyH_take (i := 0) (oi := { dst := some 27, op := Op.move (Operand.tmp 5), type := 22, pos := "ref.go:131", after := #[], guard := none }) (v := ?_) rfl (by kernel_rfl) (by kernel_rfl) (by kernel_rfl) (fun _ _ _ h => h) (Or.inl ⟨by rfl, ?_⟩) (by assumption) ?_
          rotate_left
          · (intro w hSw; (try dsimp only at hSw); go_simp); (try with_reducible rfl)
          try simp only [Act.put, List.setIfInBounds_toArray, List.set_cons_zero, List.set_cons_succ]
          refine wpAnyH_take (i := 1) (oi := { dst := some 28, op := Op.move (Operand.tmp 6), type := 3, pos := "ref.go:131", after := #[], guard := none }) (v := ?_) rfl (by kernel_rfl) (by kernel_rfl) (by kernel_rfl) (fun _ _ _ h => h) (Or.inl ⟨by rfl, ?_⟩) (by assumption) ?_
          rotate_left
          · (intro w hSw; (try dsimp only at hSw); go_simp); (try with_reducible rfl)
          try simp only [Act.put, List.setIfInBounds_toArray, List.set_cons_zero, List.set_cons_succ]
          refine wpAnyH_take (i := 2) (oi := { dst := some 29, op := Op.move (Operand.tmp 7), type := 3, pos := "ref.go:131", after := #[], guard := none }) (v := ?_) rfl (by kernel_rfl) (by kernel_rfl) (by kernel_rfl) (fun _ _ _ h => h) (Or.inl ⟨by rfl, ?_⟩) (by assumption) ?_
          rotate_left
          · (intro w hSw; (try dsimp only at hSw); go_simp); (try with_reducible rfl)
          try simp only [Act.put, List.setIfInBounds_toArray, List.set_cons_zero, List.set_cons_succ]
          refine wpAnyH_take (i := 3) (oi := { dst := some 30, op := Op.binOp BinOp.add 3 (Operand.tmp 28) (Operand.tmp 29) 3, type := 3, pos := "ref.go:131", after := #[{ on := 1, ground := Ground.data }, { on := 2, ground := Ground.data }], guard := none }) (v := ?_) rfl (by kernel_rfl) (by kernel_rfl) (by kernel_rfl) (fun _ _ _ h => h) (Or.inl ⟨by rfl, ?_⟩) (by assumption) ?_
          rotate_left
          · (intro w hSw; (try dsimp only at hSw); go_simp); (try with_reducible rfl)
          try simp only [Act.put, List.setIfInBounds_toArray, List.set_cons_zero, List.set_cons_succ]
          refine wpAnyH_take (i := 4) (oi := { dst := some 31, op := Op.move (Operand.tmp 5), type := 22, pos := "ref.go:131", after := #[], guard := none }) (v := ?_) rfl (by kernel_rfl) (by kernel_rfl) (by kernel_rfl) (fun _ _ _ h => h) (Or.inl ⟨by rfl, ?_⟩) (by assumption) ?_
          rotate_left
          · (intro w hSw; (try dsimp only at hSw); go_simp); (try with_reducible rfl)
          try simp only [Act.put, List.setIfInBounds_toArray, List.set_cons_zero, List.set_cons_succ]
          refine wpAnyH_take (i := 5) (oi := { dst := some 32, op := Op.move (Operand.tmp 6), type := 3, pos := "ref.go:131", after := #[], guard := none }) (v := ?_) rfl (by kernel_rfl) (by kernel_rfl) (by kernel_rfl) (fun _ _ _ h => h) (Or.inl ⟨by rfl, ?_⟩) (by assumption) ?_
          rotate_left
          · (intro w hSw; (try dsimp only at hSw); go_simp); (try with_reducible rfl)
          try simp only [Act.put, List.setIfInBounds_toArray, List.set_cons_zero, List.set_cons_succ]
          refine wpAnyH_take (i := 6) (oi := { dst := some 33, op := Op.move (Operand.tmp 7), type := 3, pos := "ref.go:131", after := #[], guard := none }) (v := ?_) rfl (by kernel_rfl) (by kernel_rfl) (by kernel_rfl) (fun _ _ _ h => h) (Or.inl ⟨by rfl, ?_⟩) (by assumption) ?_
          rotate_left
          · (intro w hSw; (try dsimp only at hSw); go_simp); (try with_reducible rfl)
          try simp only [Act.put, List.setIfInBounds_toArray, List.set_cons_zero, List.set_cons_succ]
          refine wpAnyH_take (i := 7) (oi := { dst := some 34, op := Op.binOp BinOp.add 3 (Operand.tmp 32) (Operand.tmp 33) 3, type := 3, pos := "ref.go:131", after := #[{ on := 5, ground := Ground.data }, { on := 6, ground := Ground.data }], guard := none }) (v := ?_) rfl (by kernel_rfl) (by kernel_rfl) (by kernel_rfl) (fun _ _ _ h => h) (Or.inl ⟨by rfl, ?_⟩) (by assumption) ?_
          rotate_left
          · (intro w hSw; (try dsimp only at hSw); go_simp); (try with_reducible rfl)
          try simp only [Act.put, List.setIfInBounds_toArray, List.set_cons_zero, List.set_cons_succ]
          refine wpAnyH_take (i := 8) (oi := { dst := some 35, op := Op.indexAddr 22 (Operand.tmp 31) (Operand.tmp 34), type := 0, pos := "ref.go:131", after := #[{ on := 4, ground := Ground.data }, { on := 7, ground := Ground.data }], guard := none }) (v := ?_) rfl (by kernel_rfl) (by kernel_rfl) (by kernel_rfl) (fun _ _ _ h => h) (Or.inl ⟨by rfl, ?_⟩) (by assumption) ?_
          rotate_left
          · (intro w hSw; (try dsimp only at hSw); go_simp); (try with_reducible rfl)
          try simp only [Act.put, List.setIfInBounds_toArray, List.set_cons_zero, List.set_cons_succ]
          refine wpAnyH_take (i := 10) (oi := { dst := some 37, op := Op.move (Operand.tmp 0), type := 22, pos := "ref.go:131", after := #[], guard := none }) (v := ?_) rfl (by kernel_rfl) (by kernel_rfl) (by kernel_rfl) (fun _ _ _ h => h) (Or.inl ⟨by rfl, ?_⟩) (by assumption) ?_
          rotate_left
          · (intro w hSw; (try dsimp only at hSw); go_simp); (try with_reducible rfl)
          try simp only [Act.put, List.setIfInBounds_toArray, List.set_cons_zero, List.set_cons_succ]
          refine wpAnyH_take (i := 11) (oi := { dst := some 38, op := Op.move (Operand.tmp 6), type := 3, pos := "ref.go:131", after := #[], guard := none }) (v := ?_) rfl (by kernel_rfl) (by kernel_rfl) (by kernel_rfl) (fun _ _ _ h => h) (Or.inl ⟨by rfl, ?_⟩) (by assumption) ?_
          rotate_left
          · (intro w hSw; (try dsimp only at hSw); go_simp); (try with_reducible rfl)
          try simp only [Act.put, List.setIfInBounds_toArray, List.set_cons_zero, List.set_cons_succ]
          refine wpAnyH_take (i := 12) (oi := { dst := some 39, op := Op.indexAddr 22 (Operand.tmp 37) (Operand.tmp 38), type := 0, pos := "ref.go:131", after := #[{ on := 10, ground := Ground.data }, { on := 11, ground := Ground.data }], guard := none }) (v := ?_) rfl (by kernel_rfl) (by kernel_rfl) (by kernel_rfl) (fun _ _ _ h => h) (Or.inl ⟨by rfl, ?_⟩) (by assumption) ?_
          rotate_left
          · (intro w hSw; (try dsimp only at hSw); go_simp); (try with_reducible rfl)
          try simp only [Act.put, List.setIfInBounds_toArray, List.set_cons_zero, List.set_cons_succ]
          refine wpAnyH_take (i := 13) (oi := { dst := some 40, op := Op.load 3 (Operand.tmp 39), type := 3, pos := "ref.go:131", after := #[{ on := 12, ground := Ground.data }], guard := none }) (v := ?_) rfl (by kernel_rfl) (by kernel_rfl) (by kernel_rfl) (fun _ _ _ h => h) (Or.inl ⟨by rfl, ?_⟩) (by assumption) ?_
          rotate_left
          · (intro w hSw; (try dsimp only at hSw); go_simp); (try with_reducible rfl)
          try simp only [Act.put, List.setIfInBounds_toArray, List.set_cons_zero, List.set_cons_succ]
          refine wpAnyH_take (i := 14) (oi := { dst := some 41, op := Op.move (Operand.tmp 1), type := 22, pos := "ref.go:131", after := #[], guard := none }) (v := ?_) rfl (by kernel_rfl) (by kernel_rfl) (by kernel_rfl) (fun _ _ _ h => h) (Or.inl ⟨by rfl, ?_⟩) (by assumption) ?_
          rotate_left
          · (intro w hSw; (try dsimp only at hSw); go_simp); (try with_reducible rfl)
          try simp only [Act.put, List.setIfInBounds_toArray, List.set_cons_zero, List.set_cons_succ]
          refine wpAnyH_take (i := 15) (oi := { dst := some 42, op := Op.move (Operand.tmp 7), type := 3, pos := "ref.go:131", after := #[], guard := none }) (v := ?_) rfl (by kernel_rfl) (by kernel_rfl) (by kernel_rfl) (fun _ _ _ h => h) (Or.inl ⟨by rfl, ?_⟩) (by assumption) ?_
          rotate_left
          · (intro w hSw; (try dsimp only at hSw); go_simp); (try with_reducible rfl)
          try simp only [Act.put, List.setIfInBounds_toArray, List.set_cons_zero, List.set_cons_succ]
          refine wpAnyH_take (i := 16) (oi := { dst := some 43, op := Op.indexAddr 22 (Operand.tmp 41) (Operand.tmp 42), type := 0, pos := "ref.go:131", after := #[{ on := 14, ground := Ground.data }, { on := 15, ground := Ground.data }], guard := none }) (v := ?_) rfl (by kernel_rfl) (by kernel_rfl) (by kernel_rfl) (fun _ _ _ h => h) (Or.inl ⟨by rfl, ?_⟩) (by assumption) ?_
          rotate_left
          · (intro w hSw; (try dsimp only at hSw); go_simp); (try with_reducible rfl)
          try simp only [Act.put, List.setIfInBounds_toArray, List.set_cons_zero, List.set_cons_succ]
          refine wpAnyH_take (i := 17) (oi := { dst := some 44, op := Op.load 3 (Operand.tmp 43), type := 3, pos := "ref.go:131", after := #[{ on := 16, ground := Ground.data }], guard := none }) (v := ?_) rfl (by kernel_rfl) (by kernel_rfl) (by kernel_rfl) (fun _ _ _ h => h) (Or.inl ⟨by rfl, ?_⟩) (by assumption) ?_
          rotate_left
          · (intro w hSw; (try dsimp only at hSw); go_simp); (try with_reducible rfl)
          try simp only [Act.put, List.setIfInBounds_toArray, List.set_cons_zero, List.set_cons_succ]
          refine wpAnyH_take (i := 18) (oi := { dst := some 45, op := Op.binOp BinOp.mul 3 (Operand.tmp 40) (Operand.tmp 44) 3, type := 3, pos := "ref.go:131", after := #[{ on := 13, ground := Ground.data }, { on := 17, ground := Ground.data }], guard := none }) (v := ?_) rfl (by kernel_rfl) (by kernel_rfl) (by kernel_rfl) (fun _ _ _ h => h) (Or.inl ⟨by rfl, ?_⟩) (by assumption) ?_
          rotate_left
          · (intro w hSw; (try dsimp only at hSw); go_simp); (try with_reducible rfl)
          try simp only [Act.put, List.setIfInBounds_toArray, List.set_cons_zero, List.set_cons_succ]
          refine wpAnyH_ready (rs := [9]) (by kernel_rfl) (by simp) ?_
          refine (AllReadyH.cons (o := { dst := some 36, op := Op.load 3 (Operand.tmp 35), type := 3, pos := "ref.go:131", after := #[{ on := 8, ground := Ground.data }], guard := none }) rfl (fun K hK => ?_) AllReadyH.nil)
          have hco9 := BlkI.cell hcr (j := i + k) (by rw [HL2.out]; omega)
          rw [HC.out] at hco9
          go_simp
          refine hK.out _ _ ⟨cellb cA hbzd, cellb cB hbzd⟩ (fun hHeld1 => ?_)
          clear hK K hHeld0
          try simp only [Act.put, List.setIfInBounds_toArray, List.set_cons_zero, List.set_cons_succ]
          refine wpAnyH_take (i := 19) (oi := { dst := some 46, op := Op.binOp BinOp.add 3 (Operand.tmp 36) (Operand.tmp 45) 3, type := 3, pos := "ref.go:131", after := #[{ on := 9, ground := Ground.data }, { on := 18, ground := Ground.data }], guard := none }) (v := ?_) rfl (by kernel_rfl) (by kernel_rfl) (by kernel_rfl) (fun _ _ _ h => h) (Or.inl ⟨by rfl, ?_⟩) (by assumption) ?_
          rotate_left
          · (intro w hSw; (try dsimp only at hSw); go_simp); (try with_reducible rfl)
          try simp only [Act.put, List.setIfInBounds_toArray, List.set_cons_zero, List.set_cons_succ]
          refine wpAnyH_take (i := 20) (oi := { dst := some 47, op := Op.indexAddr 22 (Operand.tmp 27) (Operand.tmp 30), type := 0, pos := "ref.go:131", after := #[{ on := 0, ground := Ground.data }, { on := 3, ground := Ground.data }, { on := 0, ground := Ground.phase }, { on := 1, ground := Ground.phase }, { on := 2, ground := Ground.phase }, { on := 3, ground := Ground.phase }, { on := 4, ground := Ground.phase }, { on := 5, ground := Ground.phase }, { on := 6, ground := Ground.phase }, { on := 7, ground := Ground.phase }, { on := 8, ground := Ground.phase }, { on := 9, ground := Ground.phase }, { on := 10, ground := Ground.phase }, { on := 11, ground := Ground.phase }, { on := 12, ground := Ground.phase }, { on := 13, ground := Ground.phase }, { on := 14, ground := Ground.phase }, { on := 15, ground := Ground.phase }, { on := 16, ground := Ground.phase }, { on := 17, ground := Ground.phase }, { on := 18, ground := Ground.phase }, { on := 19, ground := Ground.phase }], guard := none }) (v := ?_) rfl (by kernel_rfl) (by kernel_rfl) (by kernel_rfl) (fun _ _ _ h => h) (Or.inl ⟨by rfl, ?_⟩) (by assumption) ?_
          rotate_left
          · (intro w hSw; (try dsimp only at hSw); go_simp); (try with_reducible rfl)
          try simp only [Act.put, List.setIfInBounds_toArray, List.set_cons_zero, List.set_cons_succ]
          refine wpAnyH_ready (rs := [21]) (by kernel_rfl) (by simp) ?_
          refine (AllReadyH.cons (o := { dst := none, op := Op.store 3 (Operand.tmp 47) (Operand.tmp 46), type := 0, pos := "ref.go:131", after := #[{ on := 20, ground := Ground.data }, { on := 19, ground := Ground.data }, { on := 0, ground := Ground.phase }, { on := 1, ground := Ground.phase }, { on := 2, ground := Ground.phase }, { on := 3, ground := Ground.phase }, { on := 4, ground := Ground.phase }, { on := 5, ground := Ground.phase }, { on := 6, ground := Ground.phase }, { on := 7, ground := Ground.phase }, { on := 8, ground := Ground.phase }, { on := 9, ground := Ground.phase }, { on := 10, ground := Ground.phase }, { on := 11, ground := Ground.phase }, { on := 12, ground := Ground.phase }, { on := 13, ground := Ground.phase }, { on := 14, ground := Ground.phase }, { on := 15, ground := Ground.phase }, { on := 16, ground := Ground.phase }, { on := 17, ground := Ground.phase }, { on := 18, ground := Ground.phase }, { on := 19, ground := Ground.phase }], guard := none }) rfl (fun K hK => ?_) AllReadyH.nil)
          have hcc := BlkI.cell hcr (j := i + k) (by rw [HL2.out]; omega)
          have hcf := Blk.frozen hcr (i + k)
          go_simp
          obtain ⟨wz21, hwz⟩ : ∃ v, v = wzd.setCell ⟨w.heap.size, i + k, none⟩ (.int .i64 (IntKind.i64.wrap (c + IntKind.i64.wrap (a * b)))) := ⟨_, rfl⟩
          rw [← hwz]
          have hbz21 : Below w.heap.size w wz21 := by rw [hwz]; exact hbzd.setCell (by exact Nat.le_refl _) _
          have hcn := BlkI.set hcr (i + k) (IntKind.i64.wrap (c + IntKind.i64.wrap (a * b)))
          rw [HN.out (IntKind.i64.wrap (c + IntKind.i64.wrap (a * b))) (by simp only [wrapEq]), ← hwz] at hcn
          clear hwz
          refine hK.out _ _ ⟨cellb cA hbz21, cellb cB hbz21⟩ (fun hHeld2 => ?_)
          clear hK K hHeld1
          try simp only [Act.put, List.setIfInBounds_toArray, List.set_cons_zero, List.set_cons_succ]
          refine wpAnyH_done (by kernel_rfl) ?_ _
          clear hHeld2
          go_wp2
          go_roundw
          · exact ⟨k + 1, by omega, by go_num, hcn, hbz21⟩
          · simp [intOf]; omega
        · obtain rfl : k = q.length := by omega
          have hN : tInner q i a out q.length = tOuter p q Z (i + 1) := by rw [tOuter, HO.out, HA.out]
          rw [hN] at hcr
          clear hN hco
          go_wp2
          go_roundw
          case rel => exact ⟨i + 1, by omega, by go_num, hcr, hbr⟩
          case measure => simp [intOf]; omega
    · obtain rfl : i = p.length := by omega
      have hT : tOuter p q Z p.length = timesW p q := by rw [timesW, HZ.out]
      rw [hT] at hco
      have HI := Lib.hid (BlkI.ints (n := p.length + q.length - 1) hco (by rw [timesW_length]))
      have e1 : ((p.length + q.length - 1 : Nat) : Int) = (p.length : Int) + (q.length : Int) - 1 := by omega
      clear hT hco
      go_wp2
      go_ret
      exact ⟨⟨_, rfl, HI.out⟩, hbo⟩

/-- a coefficient of a sum. -/
def sumAtW (p q : List Int) (k : Nat) : Int := if k < p.length then (if k < q.length then wrap64 (p[k]?.getD 0 + q[k]?.getD 0) else p[k]?.getD 0) else q[k]?.getD 0
def InI (l : List Int) : Prop := ∀ x ∈ l, -9223372036854775808 ≤ x ∧ x ≤ 9223372036854775807
theorem InI.get {l : List Int} (h : InI l) (k : Nat) : -9223372036854775808 ≤ l[k]?.getD 0 ∧ l[k]?.getD 0 ≤ 9223372036854775807 := by
  rcases Nat.lt_or_ge k l.length with hk | hk
  · rw [List.getElem?_eq_getElem hk]; exact h _ (List.getElem_mem hk)
  · rw [List.getElem?_eq_none hk]; decide
theorem pInner_at (q out : List Int) (m j : Nat) (hj : j < out.length) : (pInner q out m)[j]?.getD 0 = if j < m then wrap64 (out[j]?.getD 0 + q[j]?.getD 0) else out[j]?.getD 0 := by
  induction m with
  | zero => simp [pInner]
  | succ m ih =>
    have hl := pInner_length q out m
    rw [pInner]
    by_cases hm : m = j
    · subst hm
      rw [List.getElem?_set_self (by omega), ih, if_neg (by omega), if_pos (by omega)]
      rfl
    · rw [List.getElem?_set_ne hm, ih]
      by_cases h1 : j < m
      · rw [if_pos h1, if_pos (by omega)]
      · rw [if_neg h1, if_neg (by omega)]
theorem sumW_eq (p q : List Int) (hq : InI q) : sumW p q = upto (sumAtW p q) (max p.length q.length) := by
  apply List.ext_getElem (by rw [sumW_length, upto_length])
  intro k h1 h2
  have hk : k < max p.length q.length := by rw [sumW_length] at h1; exact h1
  have hz : (p ++ List.replicate (max p.length q.length - p.length) (0 : Int)).length = max p.length q.length := by simp; omega
  have e1 := pInner_at q (p ++ List.replicate (max p.length q.length - p.length) 0) q.length k (by rw [hz]; exact hk)
  have e2 : (sumW p q)[k] = (sumW p q)[k]?.getD 0 := by rw [List.getElem?_eq_getElem h1]; rfl
  have e3 : (upto (sumAtW p q) (max p.length q.length))[k] = sumAtW p q k := by simp [upto]
  rw [e2, e3]
  show (pInner q (p ++ List.replicate (max p.length q.length - p.length) 0) q.length)[k]?.getD 0 = _
  rw [e1]
  have e4 : (p ++ List.replicate (max p.length q.length - p.length) (0 : Int))[k]?.getD 0 = if k < p.length then p[k]?.getD 0 else 0 := by
    by_cases hp : k < p.length
    · rw [List.getElem?_append_left hp, if_pos hp]
    · rw [List.getElem?_append_right (by omega), if_neg hp, List.getElem?_replicate, if_pos (by omega)]; rfl
  rw [e4, sumAtW]
  have hb := hq.get k
  by_cases hp : k < p.length <;> by_cases hq' : k < q.length
  · simp [hp, hq']
  · simp [hp, hq']
  · simp only [if_neg hp, if_pos hq', Int.zero_add]; exact IntWalk.wrap64_in _ (by omega)
  · omega

set_option maxRecDepth 100000 in
set_option maxHeartbeats 4000000 in
theorem plusR_any (vp vq : Value) (p q : List Int) (w : World) (hp : Ints w vp p) (hq : Ints w vq q) (hp1 : 1 ≤ p.length) (hq1 : 1 ≤ q.length) (hp2 : p.length ≤ 1000000) (hq2 : q.length ≤ 1000000) (hip : InI p) (hiq : InI q) :
    Calls Tryz.prog 90 #[vp, vq] w (GivesInts w (plusW p q)) := by
  have HS := Lib.hid (show plusW p q = trimL (upto (sumAtW p q) (max p.length q.length)) by rw [plusW, sumW_eq p q hiq])
  obtain ⟨bp, op, cp, rfl, hpc⟩ := hp.head (by omega)
  obtain ⟨bq, oq, cq, rfl, hqc⟩ := hq.head (by omega)
  have HIP := Lib.hid hip
  have HIQ := Lib.hid hiq
  clear hp hq hip hiq
  obtain ⟨i0, hi, hz0, hz1, hz2⟩ := info_parts Tryz.infoInt
  go_enter Tryz.func90, Tryz.ntmps90
  go_wp2
  go_loopw [5, 6] (fun vo vk wr => ∃ k : Nat, k ≤ max p.length q.length ∧ vk = .int .i64 k ∧ OwnI 3 w.heap.size wr vo (upto (sumAtW p q) k) ∧ Below w.heap.size w wr) (fun _ vk _ => max p.length q.length - (intOf vk).toNat)
  case atStart => exact ⟨0, Nat.zero_le _, rfl, World.ownsRow_nil _ _ _ _, Below.refl _ _⟩
  case round =>
    obtain ⟨k, hk, rfl, hown, hbr⟩ := hrel
    have hU : upto (sumAtW p q) (k + 1) = upto (sumAtW p q) k ++ [sumAtW p q k] := upto_succ _ _
    have hUl : (upto (sumAtW p q) k).length = k := upto_length _ _
    by_cases h1 : k < p.length
    · have cA := cellb (hpc k h1) hbr
      have hx := HIP.out.get k
      have d1 : (k : Int) < (p.length : Int) := by omega
      have f1 : IntKind.i64.wrap (p[k]?.getD 0) = p[k]?.getD 0 := IntWalk.i64_in _ (by omega)
      by_cases h2 : k < q.length
      · have cB := cellb (hqc k h2) hbr
        have d2 : (k : Int) < (q.length : Int) := by omega
        have hv : sumAtW p q k = wrap64 (p[k]?.getD 0 + q[k]?.getD 0) := by unfold sumAtW; rw [if_pos h1, if_pos h2]
        rw [hv] at hU
        clear hv
        generalize p[k]?.getD 0 = a at cA hx f1 hU; generalize q[k]?.getD 0 = b at cB hU
        generalize hl0 : upto (sumAtW p q) k = L at hown hU hUl
        have HU := Lib.hid hU
        have HUL := Lib.hid hUl
        have hsz := hbr.size
        clear hl0 hU hUl
        go_wp2_with (at_builtin; refine wpList_append_own _ rfl _ _ 22 rfl w.heap.size 3 i0 (.int .i64 0) 1 8 Tryz.underlying22 hi hz0 hz1 hz2 rfl (by decide) _ _ _ rfl (hown.alloc _) ⟨wr.heap.size, 0, none⟩ 1 1 [.int .i64 (wrap64 (a + b))] rfl rfl (cell_one_new _ _ _) (by simp [Value.oneCell']) (by unfold maxLen; have := HUL.out; omega) (by have := HUL.out; omega) (by simp; omega) ?_; intro v' w5 hown5 hgrow5 _)
        have hb5 := below_own hbr hown hgrow5
        have hn5 : OwnI 3 w.heap.size w5 v' (upto (sumAtW p q) (k + 1)) := by
          rw [HU.out]; unfold OwnI; rw [List.length_append, List.map_append]; exact hown5
        go_wp2
        go_roundw
        case rel => exact ⟨k + 1, by omega, by go_num, hn5, hb5⟩
        case measure => simp [intOf]; omega
      · have d2 : ¬ (k : Int) < (q.length : Int) := by omega
        have hv : sumAtW p q k = p[k]?.getD 0 := by unfold sumAtW; rw [if_pos h1, if_neg h2]
        rw [hv] at hU
        clear hv
        generalize p[k]?.getD 0 = a at cA hx f1 hU
        generalize hl0 : upto (sumAtW p q) k = L at hown hU hUl
        have HU := Lib.hid hU
        have HUL := Lib.hid hUl
        have hsz := hbr.size
        clear hl0 hU hUl
        go_wp2_with (at_builtin; refine wpList_append_own _ rfl _ _ 22 rfl w.heap.size 3 i0 (.int .i64 0) 1 8 Tryz.underlying22 hi hz0 hz1 hz2 rfl (by decide) _ _ _ rfl (hown.alloc _) ⟨wr.heap.size, 0, none⟩ 1 1 [.int .i64 (a)] rfl rfl (cell_one_new _ _ _) (by simp [Value.oneCell']) (by unfold maxLen; have := HUL.out; omega) (by have := HUL.out; omega) (by simp; omega) ?_; intro v' w5 hown5 hgrow5 _)
        have hb5 := below_own hbr hown hgrow5
        have hn5 : OwnI 3 w.heap.size w5 v' (upto (sumAtW p q) (k + 1)) := by
          rw [HU.out]; unfold OwnI; rw [List.length_append, List.map_append]; exact hown5
        go_wp2
        go_roundw
        case rel => exact ⟨k + 1, by omega, by go_num, hn5, hb5⟩
        case measure => simp [intOf]; omega
    · have d1 : ¬ (k : Int) < (p.length : Int) := by omega
      by_cases h2 : k < q.length
      · have cB := cellb (hqc k h2) hbr
        have hx := HIQ.out.get k
        have d2 : (k : Int) < (q.length : Int) := by omega
        have f1 : IntKind.i64.wrap (q[k]?.getD 0) = q[k]?.getD 0 := IntWalk.i64_in _ (by omega)
        have hv : sumAtW p q k = q[k]?.getD 0 := by unfold sumAtW; rw [if_neg h1]
        rw [hv] at hU
        clear hv
        generalize q[k]?.getD 0 = b at cB hx f1 hU
        generalize hl0 : upto (sumAtW p q) k = L at hown hU hUl
        have HU := Lib.hid hU
        have HUL := Lib.hid hUl
        have hsz := hbr.size
        clear hl0 hU hUl
        go_wp2_with (at_builtin; refine wpList_append_own _ rfl _ _ 22 rfl w.heap.size 3 i0 (.int .i64 0) 1 8 Tryz.underlying22 hi hz0 hz1 hz2 rfl (by decide) _ _ _ rfl (hown.alloc _) ⟨wr.heap.size, 0, none⟩ 1 1 [.int .i64 (b)] rfl rfl (cell_one_new _ _ _) (by simp [Value.oneCell']) (by unfold maxLen; have := HUL.out; omega) (by have := HUL.out; omega) (by simp; omega) ?_; intro v' w5 hown5 hgrow5 _)
        have hb5 := below_own hbr hown hgrow5
        have hn5 : OwnI 3 w.heap.size w5 v' (upto (sumAtW p q) (k + 1)) := by
          rw [HU.out]; unfold OwnI; rw [List.length_append, List.map_append]; exact hown5
        go_wp2
        go_roundw
        case rel => exact ⟨k + 1, by omega, by go_num, hn5, hb5⟩
        case measure => simp [intOf]; omega
      · have d2 : ¬ (k : Int) < (q.length : Int) := by omega
        obtain rfl : k = max p.length q.length := by omega
        obtain ⟨g, cap, rfl, hgb, hcap, hcc⟩ := hown.cellsOf (by rw [hUl]; omega)
        have hcs := fun j hj => (hcc j hj).1
        have hm2 : max p.length q.length ≤ 1000000 := by omega
        generalize upto (sumAtW p q) (max p.length q.length) = L at hUl hcap hcc hcs HS
        have hm3 : L.length ≤ 1000000 := by omega
        have hi9 := Cells.intsC hcc hcap
        clear hown hU hUl hcc
        obtain ⟨wo, rfl⟩ : ∃ wo, wo = wr := ⟨_, rfl⟩
        go_wp2
        go_loopw [5] (fun s wr2 => ∃ m : Nat, m ≤ L.length ∧ s = .slice (some ⟨g, 0, none⟩) m cap ∧ trimN L m = trimN L L.length ∧ Below wo.heap.size wo wr2) (fun s _ => lenV s)
        case atStart => exact ⟨_, Nat.le_refl _, rfl, rfl, Below.refl _ _⟩
        case round =>
          obtain ⟨m, hm, rfl, hT, hb2⟩ := hrel
          have HT := Lib.hid hT
          clear hT
          cases m with
          | zero =>
            have HI := Lib.hid (hi9.carry hb2)
            have hz : trimL L = [] := by rw [trimL, ← HT.out]; rfl
            have HZ := Lib.hid hz
            clear hz hcs hi9
            go_wp2
            go_ret
            exact ⟨⟨_, rfl, by rw [HS.out, HZ.out]; exact ⟨some ⟨g, 0, none⟩, cap, rfl, by simp, fun h => by simp at h⟩⟩, bthen hbr hb2⟩
          | succ m =>
            have hcell := cellb (hcs m (by omega)) hb2
            generalize hx : L[m]?.getD 0 = x at hcell
            have HX := Lib.hid hx
            clear hx
            by_cases h0 : x = 0
            · subst h0
              go_wp2
              go_roundw
              case rel => exact ⟨m, by omega, by simp, by have := HT.out; rw [trimN, if_pos HX.out] at this; exact this, hb2⟩
              case measure => simp [lenV]
            · have hb0 : (x == 0) = false := by rw [beq_eq_false_iff_ne]; exact h0
              have hz : trimL L = L.take (m + 1) := by
                have := HT.out
                rw [trimN, if_neg (by rw [HX.out]; exact h0)] at this
                rw [trimL, ← this]
              have HZ := Lib.hid hz
              have HI := Lib.hid (Ints.take (n := m + 1) (hi9.carry hb2) hm)
              clear hz hcs hi9
              go_wp2
              go_ret
              exact ⟨⟨_, rfl, by rw [HS.out, HZ.out]; exact HI.out⟩, bthen hbr hb2⟩

/-- equal modulo 2^64. -/
def Cg (a b : Int) : Prop := ∃ t : Int, a = b + 18446744073709551616 * t
theorem Cg.refl (a : Int) : Cg a a := ⟨0, by omega⟩
theorem Cg.symm {a b : Int} (h : Cg a b) : Cg b a := by obtain ⟨t, h⟩ := h; exact ⟨-t, by omega⟩
theorem Cg.trans {a b c : Int} (h : Cg a b) (k : Cg b c) : Cg a c := by obtain ⟨t, h⟩ := h; obtain ⟨s, k⟩ := k; exact ⟨t + s, by omega⟩
theorem Cg.add {a b c d : Int} (h : Cg a b) (k : Cg c d) : Cg (a + c) (b + d) := by obtain ⟨t, h⟩ := h; obtain ⟨s, k⟩ := k; exact ⟨t + s, by omega⟩
theorem Cg.sub {a b c d : Int} (h : Cg a b) (k : Cg c d) : Cg (a - c) (b - d) := by obtain ⟨t, h⟩ := h; obtain ⟨s, k⟩ := k; exact ⟨t - s, by omega⟩
theorem Cg.mul {a b c d : Int} (h : Cg a b) (k : Cg c d) : Cg (a * c) (b * d) := by
  obtain ⟨t, rfl⟩ := h; obtain ⟨s, rfl⟩ := k
  exact ⟨t * d + b * s + 18446744073709551616 * t * s, by grind⟩
theorem Cg.wrap (a : Int) : Cg (wrap64 a) a := ⟨-((a + 9223372036854775808) / 18446744073709551616), by unfold wrap64; omega⟩
theorem Cg.eq {a b : Int} (h : Cg a b) : wrap64 a = wrap64 b := by obtain ⟨t, rfl⟩ := h; unfold wrap64; omega
theorem wrap64_idem (a : Int) : wrap64 (wrap64 a) = wrap64 a := by unfold wrap64; omega
theorem Cg.canon {a b x y : Int} (ha : a = wrap64 x) (hb : b = wrap64 y) (h : Cg a b) : a = b := by
  have := h.eq
  rw [ha, hb, wrap64_idem, wrap64_idem] at this
  rw [ha, hb, this]

/-- Horner's value, without wrapping. -/
def hor (zr zi : Int) : List Int → Int × Int
  | [] => (0, 0)
  | x :: l => (x + ((hor zr zi l).1 * zr - (hor zr zi l).2 * zi), (hor zr zi l).1 * zi + (hor zr zi l).2 * zr)

theorem drop_at (p : List Int) (k : Nat) (hk : k < p.length) : p.drop k = p[k]?.getD 0 :: p.drop (k + 1) := by
  rw [List.drop_eq_getElem_cons hk, List.getElem?_eq_getElem hk]; rfl

theorem at_hor (p : List Int) (zr zi : Int) (j : Nat) (hj : j ≤ p.length) :
    Cg ((upto (bwd p) j).foldl (atStep zr zi) (0, 0)).1 (hor zr zi (p.drop (p.length - j))).1 ∧ Cg ((upto (bwd p) j).foldl (atStep zr zi) (0, 0)).2 (hor zr zi (p.drop (p.length - j))).2 := by
  induction j with
  | zero => constructor <;> (simp [upto, hor]; exact Cg.refl _)
  | succ j ih =>
    obtain ⟨h1, h2⟩ := ih (by omega)
    rw [upto_succ, atStep_snoc, drop_at p (p.length - (j + 1)) (by omega), show p.length - (j + 1) + 1 = p.length - j by omega]
    have hb : (bwd p j).2 = p[p.length - (j + 1)]?.getD 0 := by simp only [bwd]; congr 2; omega
    simp only [atStep, hor, hb]
    generalize (upto (bwd p) j).foldl (atStep zr zi) (0, 0) = s at h1 h2 ⊢
    generalize hor zr zi (p.drop (p.length - j)) = H at h1 h2 ⊢
    generalize p[p.length - (j + 1)]?.getD 0 = x
    have m1 := ((Cg.wrap _).trans (h1.mul (Cg.refl zr))).sub ((Cg.wrap _).trans (h2.mul (Cg.refl zi)))
    have m2 := ((Cg.wrap _).trans (h1.mul (Cg.refl zi))).add ((Cg.wrap _).trans (h2.mul (Cg.refl zr)))
    refine ⟨?_, (Cg.wrap _).trans m2⟩
    have := (Cg.wrap _).trans (((Cg.wrap _).trans m1).add (Cg.refl x))
    refine this.trans ⟨0, by omega⟩

/-- the reference's sum, and its power, behind k rounds. -/
def valSt (p : List Int) (zr zi : Int) : Nat → (Int × Int) × (Int × Int)
  | 0 => ((0, 0), (1, 0))
  | k + 1 => let s := valSt p zr zi k
    ((wrap64 (s.1.1 + wrap64 (p[k]?.getD 0 * s.2.1)), wrap64 (s.1.2 + wrap64 (p[k]?.getD 0 * s.2.2))),
     (wrap64 (wrap64 (s.2.1 * zr) - wrap64 (s.2.2 * zi)), wrap64 (wrap64 (s.2.1 * zi) + wrap64 (s.2.2 * zr))))
/-- what is left of the value is the power times what is left of the polynomial. -/
theorem val_hor (p : List Int) (zr zi : Int) (k : Nat) (hk : k ≤ p.length) :
    Cg ((valSt p zr zi k).1.1 + ((valSt p zr zi k).2.1 * (hor zr zi (p.drop k)).1 - (valSt p zr zi k).2.2 * (hor zr zi (p.drop k)).2)) (hor zr zi p).1 ∧
    Cg ((valSt p zr zi k).1.2 + ((valSt p zr zi k).2.1 * (hor zr zi (p.drop k)).2 + (valSt p zr zi k).2.2 * (hor zr zi (p.drop k)).1)) (hor zr zi p).2 := by
  induction k with
  | zero => constructor <;> (simp [valSt]; exact Cg.refl _)
  | succ k ih =>
    obtain ⟨h1, h2⟩ := ih (by omega)
    rw [drop_at p k (by omega)] at h1 h2
    simp only [valSt, hor] at h1 h2 ⊢
    generalize (valSt p zr zi k).1.1 = o1 at h1 h2 ⊢
    generalize (valSt p zr zi k).1.2 = o2 at h1 h2 ⊢
    generalize (valSt p zr zi k).2.1 = w1 at h1 h2 ⊢
    generalize (valSt p zr zi k).2.2 = w2 at h1 h2 ⊢
    generalize hor zr zi (p.drop (k + 1)) = H at h1 h2 ⊢
    generalize p[k]?.getD 0 = x at h1 h2 ⊢
    have a1 : Cg (wrap64 (o1 + wrap64 (x * w1))) (o1 + x * w1) := (Cg.wrap _).trans ((Cg.refl _).add (Cg.wrap _))
    have a2 : Cg (wrap64 (o2 + wrap64 (x * w2))) (o2 + x * w2) := (Cg.wrap _).trans ((Cg.refl _).add (Cg.wrap _))
    have b1 : Cg (wrap64 (wrap64 (w1 * zr) - wrap64 (w2 * zi))) (w1 * zr - w2 * zi) := (Cg.wrap _).trans ((Cg.wrap _).sub (Cg.wrap _))
    have b2 : Cg (wrap64 (wrap64 (w1 * zi) + wrap64 (w2 * zr))) (w1 * zi + w2 * zr) := (Cg.wrap _).trans ((Cg.wrap _).add (Cg.wrap _))
    refine ⟨?_, ?_⟩
    · refine Cg.trans (a1.add ((b1.mul (Cg.refl H.1)).sub (b2.mul (Cg.refl H.2)))) (Cg.trans ?_ h1)
      exact ⟨0, by grind⟩
    · refine Cg.trans (a2.add ((b1.mul (Cg.refl H.2)).add (b2.mul (Cg.refl H.1)))) (Cg.trans ?_ h2)
      exact ⟨0, by grind⟩

theorem val_at (p : List Int) (zr zi : Int) (h : 1 ≤ p.length) : (valSt p zr zi p.length).1 = atW p zr zi := by
  obtain ⟨v1, v2⟩ := val_hor p zr zi p.length (Nat.le_refl _)
  obtain ⟨a1, a2⟩ := at_hor p zr zi p.length (Nat.le_refl _)
  rw [Nat.sub_self, List.drop_zero] at a1 a2
  rw [List.drop_length] at v1 v2
  simp only [hor, Int.mul_zero, Int.sub_zero, Int.add_zero] at v1 v2
  obtain ⟨n, hn⟩ : ∃ n, p.length = n + 1 := ⟨p.length - 1, by omega⟩
  have c1 := v1.trans a1.symm
  have c2 := v2.trans a2.symm
  unfold atW
  rw [hn] at c1 c2 ⊢
  rw [upto_succ, atStep_snoc] at c1 c2 ⊢
  refine Prod.ext ?_ ?_
  · exact Cg.canon rfl rfl c1
  · exact Cg.canon rfl rfl c2

theorem Blk.set2 {w : World} {B : Nat} {T : TypeId} {a b : Value} (h : Blk w B T [a, b]) (x y : Value) : Blk ((w.setCell ⟨B, 0, none⟩ x).setCell ⟨B, 1, none⟩ y) B T [x, y] := (h.set 0 x).set 1 y
theorem Blk.other2 {w : World} {B B' : Nat} {T : TypeId} {vs : List Value} (h : Blk w B T vs) (hne : B ≠ B') (x y : Value) : Blk ((w.setCell ⟨B', 0, none⟩ x).setCell ⟨B', 1, none⟩ y) B T vs := (h.other hne x).other hne y

theorem InI.poly {p : List Int} (h : checkPolyE p = 0) : InI p := fun x hx => by
  have := (checkPolyE_range h).1 x hx; omega

end Go.Proofs.YtfdehcphmmhjaaaGreatDoor

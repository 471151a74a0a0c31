/- The reference: edges that separate. -/
import Derived.Test.YtlohcnecehlljaaGreatDoorHqA
import Derived.Test.YtlohcnecehlljaaGreatDoorHqD
import Derived.Test.YtlohcnecehlljaaGreatDoorHpO
namespace Go.Proofs.YtlohcnecehlljaaGreatDoor
section
set_option linter.unusedSimpArgs false
set_option linter.unusedVariables false
open Go.RowKit

set_option maxRecDepth 100000 in
set_option maxHeartbeats 4000000 in
theorem rightR_any (v : Value) (l : List (Int × Int)) (q : Nat) (s : Int × Int) (w : World) (hv : Pairs w v l) (hl : l.length ≤ 1000000) (hq : q < l.length) :
    Calls Tryz.prog 98 #[v, .int .i64 q, .agg #[.int .i64 s.1, .int .i64 s.2]] w fun e w' => e = .returned (.bool (negB (sideE (edgeK l q) (0, negI s.1) s.2))) ∧ Below w.heap.size w w' := by
  obtain ⟨k, hn⟩ : ∃ n, n = l.length := ⟨_, rfl⟩
  obtain ⟨a, cp, rfl, _, hcs0⟩ := id hv
  have hm : (q + 1) % l.length < l.length := Nat.mod_lt _ (by omega)
  obtain ⟨b, off, rfl, hc⟩ := hcs0 (by omega)
  obtain ⟨A, hA⟩ : ∃ A, l[q]? = some A := ⟨_, List.getElem?_eq_getElem hq⟩
  obtain ⟨B, hB1⟩ : ∃ B, l[(q + 1) % l.length]? = some B := ⟨_, List.getElem?_eq_getElem hm⟩
  obtain ⟨c0, c1⟩ := hc _ _ hA
  obtain ⟨c2, c3⟩ := hc _ _ hB1
  have hek : edgeK l q = (A.1, A.2, B.1, B.2) := by rw [edgeK, hA, hB1]; rfl
  rw [hek]
  rw [← hn] at c2 c3 hl hq ⊢
  have r2 : ((q : Int) + 1).tmod (k : Int) = (((q + 1) % k : Nat) : Int) := rfl
  have r3 : (((q + 1) % k : Nat) : Int) < (k : Int) := by have := Nat.mod_lt (q + 1) (show 0 < k by omega); omega
  obtain ⟨R, hR⟩ : ∃ R, R = negB (sideE (A.1, A.2, B.1, B.2) (0, negI s.1) s.2) := ⟨_, rfl⟩
  rw [← hR]
  rw [negB, sideE, negI] at hR
  obtain ⟨s0, s1⟩ := s
  obtain ⟨A0, A1⟩ := A
  obtain ⟨B0, B1⟩ := B
  simp only at c0 c1 c2 c3 hR ⊢
  have HR := Lib.hid hR
  clear hR hek hA hB1 hn hv hcs0 hc hm
  generalize (q + 1) % k = m at c2 c3 r2 r3
  have r0 : k ≠ 0 := by omega
  have r1 : IntKind.i64.wrap ((q : Int) + 1) = (q : Int) + 1 := IntWalk.i64_in _ (by omega)
  have r7 : (0 : Int) ≤ (m : Int) := by omega
  have d1 : (q : Int) < (k : Int) := by omega
  go_enter Tryz.func98, Tryz.ntmps98
  go_upto_region 1 with fail
  obtain ⟨W1, hW1⟩ : ∃ v, v = World.alloc w (Obj.cells #[.int .i64 s0, .int .i64 s1] 118) := ⟨_, rfl⟩
  have kW1 : Below w.heap.size w W1 := by rw [hW1]; exact below_new _ _
  have iW1 : Blk W1 (w.heap.size) 118 [.int .i64 s0, .int .i64 s1] := by rw [hW1]; exact Blk.new _ _ _
  have sW1 : W1.heap.size = w.heap.size + 1 := by rw [hW1]; simp
  rw [← hW1]
  clear hW1
  have p0 := iW1.cell (j := 0) (v := .int .i64 s0) rfl
  have p1 := iW1.cell (j := 1) (v := .int .i64 s1) rfl
  have c0 := cellb c0 kW1
  have c1 := cellb c1 kW1
  have c2 := cellb c2 kW1
  have c3 := cellb c3 kW1
  have hB := kW1
  clear iW1 sW1 kW1
  go_cut [7, 8] from 9 to 20 (fun u7 u8 wn => ∃ b7 b8 : Nat, u7 = .pointer (some ⟨b7, 0, none⟩) ∧ u8 = .pointer (some ⟨b8, 0, none⟩) ∧ BlkI wn b7 98 [A0, A1] ∧ BlkI wn b8 98 [B0, B1] ∧ Below W1.heap.size W1 wn)
  case first =>
    refine wp_region_held_drew (S := (fun W => W.cell? ⟨b, off + q * 2, none⟩ = some (.int .i64 A0) ∧ W.cell? ⟨b, off + q * 2 + 1, none⟩ = some (.int .i64 A1) ∧ W.cell? ⟨b, off + m * 2, none⟩ = some (.int .i64 B0) ∧ W.cell? ⟨b, off + m * 2 + 1, none⟩ = some (.int .i64 B1))) (by kernel_rfl) ⟨cellb c0 (Below.refl _ _).drew, cellb c1 (Below.refl _ _).drew, cellb c2 (Below.refl _ _).drew, cellb c3 (Below.refl _ _).drew⟩ (fun hHeld0 => ?_)
    obtain ⟨wzd, hwz⟩ : ∃ v, v = W1.drew := ⟨_, rfl⟩
    rw [← hwz] at hHeld0 ⊢
    have hbzd : Below W1.heap.size W1 wzd := by rw [hwz]; exact (Below.refl _ _).drew
    have hlzd : Below W1.heap.size W1 wzd := by rw [hwz]; exact (Below.refl _ _).drew
    clear hwz hlzd
    refine wpAnyH_take (i := 0) (oi := { dst := some 9, op := Op.move (Operand.tmp 0), type := 48, pos := "ref.go:378", after := #[], guard := none }) (v := ?_) rfl (by kernel_rfl) (by kernel_rfl) (by kernel_rfl) (fun _ _ _ h => h) (Or.inl ⟨by rfl, ?_⟩) (by assumption) ?_
    rotate_left
    · (intro w hSw; (try dsimp only at hSw); go_simp); (try with_reducible rfl)
    try simp only [Act.put, List.setIfInBounds_toArray, List.set_cons_zero, List.set_cons_succ]
    refine wpAnyH_take (i := 1) (oi := { dst := some 10, op := Op.move (Operand.tmp 1), type := 3, pos := "ref.go:378", after := #[], guard := none }) (v := ?_) rfl (by kernel_rfl) (by kernel_rfl) (by kernel_rfl) (fun _ _ _ h => h) (Or.inl ⟨by rfl, ?_⟩) (by assumption) ?_
    rotate_left
    · (intro w hSw; (try dsimp only at hSw); go_simp); (try with_reducible rfl)
    try simp only [Act.put, List.setIfInBounds_toArray, List.set_cons_zero, List.set_cons_succ]
    refine wpAnyH_take (i := 2) (oi := { dst := some 11, op := Op.indexAddr 48 (Operand.tmp 9) (Operand.tmp 10), type := 0, pos := "ref.go:378", after := #[{ on := 0, ground := Ground.data }, { on := 1, ground := Ground.data }], guard := none }) (v := ?_) rfl (by kernel_rfl) (by kernel_rfl) (by kernel_rfl) (fun _ _ _ h => h) (Or.inl ⟨by rfl, ?_⟩) (by assumption) ?_
    rotate_left
    · (intro w hSw; (try dsimp only at hSw); go_simp); (try with_reducible rfl)
    try simp only [Act.put, List.setIfInBounds_toArray, List.set_cons_zero, List.set_cons_succ]
    refine wpAnyH_take (i := 3) (oi := { dst := some 12, op := Op.load 98 (Operand.tmp 11), type := 98, pos := "ref.go:378", after := #[{ on := 2, ground := Ground.data }], guard := none }) (v := ?_) rfl (by kernel_rfl) (by kernel_rfl) (by kernel_rfl) (fun _ _ _ h => h) (Or.inl ⟨by rfl, ?_⟩) (by assumption) ?_
    rotate_left
    · (intro w hSw; (try dsimp only at hSw); go_simp); (try with_reducible rfl)
    try simp only [Act.put, List.setIfInBounds_toArray, List.set_cons_zero, List.set_cons_succ]
    refine wpAnyH_take (i := 4) (oi := { dst := some 13, op := Op.move (Operand.tmp 0), type := 48, pos := "ref.go:378", after := #[{ on := 14, ground := Ground.gcOnly Departure.lateStores }], guard := none }) (v := ?_) rfl (by kernel_rfl) (by kernel_rfl) (by kernel_rfl) (fun _ _ _ h => h) (Or.inl ⟨by rfl, ?_⟩) (by assumption) ?_
    rotate_left
    · (intro w hSw; (try dsimp only at hSw); go_simp); (try with_reducible rfl)
    try simp only [Act.put, List.setIfInBounds_toArray, List.set_cons_zero, List.set_cons_succ]
    refine wpAnyH_take (i := 5) (oi := { dst := some 14, op := Op.move (Operand.tmp 1), type := 3, pos := "ref.go:378", after := #[{ on := 14, ground := Ground.gcOnly Departure.lateStores }], guard := none }) (v := ?_) rfl (by kernel_rfl) (by kernel_rfl) (by kernel_rfl) (fun _ _ _ h => h) (Or.inl ⟨by rfl, ?_⟩) (by assumption) ?_
    rotate_left
    · (intro w hSw; (try dsimp only at hSw); go_simp); (try with_reducible rfl)
    try simp only [Act.put, List.setIfInBounds_toArray, List.set_cons_zero, List.set_cons_succ]
    refine wpAnyH_take (i := 6) (oi := { dst := some 15, op := Op.binOp BinOp.add 3 (Operand.tmp 14) (Operand.const (Value.int IntKind.i64 1)) 3, type := 3, pos := "ref.go:378", after := #[{ on := 5, ground := Ground.data }, { on := 14, ground := Ground.gcOnly Departure.lateStores }], guard := none }) (v := ?_) rfl (by kernel_rfl) (by kernel_rfl) (by kernel_rfl) (fun _ _ _ h => h) (Or.inl ⟨by rfl, ?_⟩) (by assumption) ?_
    rotate_left
    · (intro w hSw; (try dsimp only at hSw); go_simp); (try with_reducible rfl)
    try simp only [Act.put, List.setIfInBounds_toArray, List.set_cons_zero, List.set_cons_succ]
    refine wpAnyH_take (i := 7) (oi := { dst := some 16, op := Op.move (Operand.tmp 0), type := 48, pos := "ref.go:378", after := #[], guard := none }) (v := ?_) rfl (by kernel_rfl) (by kernel_rfl) (by kernel_rfl) (fun _ _ _ h => h) (Or.inl ⟨by rfl, ?_⟩) (by assumption) ?_
    rotate_left
    · (intro w hSw; (try dsimp only at hSw); go_simp); (try with_reducible rfl)
    try simp only [Act.put, List.setIfInBounds_toArray, List.set_cons_zero, List.set_cons_succ]
    refine wpAnyH_take (i := 8) (oi := { dst := some 17, op := Op.call { callee := Callee.builtin Builtin.len, args := #[Operand.tmp 16], argTypes := #[48] }, type := 3, pos := "ref.go:378", after := #[{ on := 7, ground := Ground.data }], guard := none }) (v := ?_) rfl (by kernel_rfl) (by kernel_rfl) (by kernel_rfl) (fun _ _ _ h => h) (Or.inl ⟨by rfl, ?_⟩) (by assumption) ?_
    rotate_left
    · (intro w hSw; (try dsimp only at hSw); go_simp); (try with_reducible rfl)
    try simp only [Act.put, List.setIfInBounds_toArray, List.set_cons_zero, List.set_cons_succ]
    refine wpAnyH_take (i := 9) (oi := { dst := some 18, op := Op.binOp BinOp.rem 3 (Operand.tmp 15) (Operand.tmp 17) 3, type := 3, pos := "ref.go:378", after := #[{ on := 6, ground := Ground.data }, { on := 8, ground := Ground.data }, { on := 14, ground := Ground.gcOnly Departure.lateStores }], guard := none }) (v := ?_) rfl (by kernel_rfl) (by kernel_rfl) (by kernel_rfl) (fun _ _ _ h => h) (Or.inl ⟨by rfl, ?_⟩) (by assumption) ?_
    rotate_left
    · (intro w hSw; (try dsimp only at hSw); go_simp); (try with_reducible rfl)
    try simp only [Act.put, List.setIfInBounds_toArray, List.set_cons_zero, List.set_cons_succ]
    refine wpAnyH_take (i := 10) (oi := { dst := some 19, op := Op.indexAddr 48 (Operand.tmp 13) (Operand.tmp 18), type := 0, pos := "ref.go:378", after := #[{ on := 4, ground := Ground.data }, { on := 9, ground := Ground.data }, { on := 14, ground := Ground.gcOnly Departure.lateStores }], guard := none }) (v := ?_) rfl (by kernel_rfl) (by kernel_rfl) (by kernel_rfl) (fun _ _ _ h => h) (Or.inl ⟨by rfl, ?_⟩) (by assumption) ?_
    rotate_left
    · (intro w hSw; (try dsimp only at hSw); go_simp); (try with_reducible rfl)
    try simp only [Act.put, List.setIfInBounds_toArray, List.set_cons_zero, List.set_cons_succ]
    refine wpAnyH_take (i := 11) (oi := { dst := some 20, op := Op.load 98 (Operand.tmp 19), type := 98, pos := "ref.go:378", after := #[{ on := 10, ground := Ground.data }, { on := 14, ground := Ground.gcOnly Departure.lateStores }], guard := none }) (v := ?_) rfl (by kernel_rfl) (by kernel_rfl) (by kernel_rfl) (fun _ _ _ h => h) (Or.inl ⟨by rfl, ?_⟩) (by assumption) ?_
    rotate_left
    · (intro w hSw; (try dsimp only at hSw); go_simp); (try with_reducible rfl)
    try simp only [Act.put, List.setIfInBounds_toArray, List.set_cons_zero, List.set_cons_succ]
    refine wpAnyH_ready (rs := [12, 13]) (by kernel_rfl) (by simp) ?_
    refine (AllReadyH.cons (o := { dst := some 7, op := Op.alloc 98, type := 0, pos := "ref.go:378", after := #[], guard := none }) rfl (fun K hK => ?_) (AllReadyH.cons (o := { dst := some 8, op := Op.alloc 98, type := 0, pos := "ref.go:378", after := #[], guard := none }) rfl (fun K hK => ?_) AllReadyH.nil))
    · go_simp
      obtain ⟨wz12, hwz⟩ : ∃ v, v = wzd.alloc (Obj.cells #[.int .i64 0, .int .i64 0] 98) := ⟨_, rfl⟩
      rw [← hwz]
      have hl : Below wzd.heap.size wzd wz12 := by rw [hwz]; exact below_new _ _
      have hbz12 := bthen hbzd hl
      obtain ⟨G20, hG⟩ : ∃ G, G = wzd.heap.size := ⟨_, rfl⟩
      have i20 : BlkI wz12 G20 98 [0, 0] := by rw [hwz, hG]; exact Blk.new _ _ _
      have g20 : W1.heap.size ≤ G20 := by rw [hG]; exact (hbzd).size
      try (have q2120 : G21 < G20 := by rw [hG]; exact Blk.lt i21)
      rw [← hG]
      clear hG
      clear hwz
      clear hl
      refine hK.out _ _ ⟨cellb c0 hbz12, cellb c1 hbz12, cellb c2 hbz12, cellb c3 hbz12⟩ (fun hHeld1 => ?_)
      clear hK K hHeld0
      try simp only [Act.put, List.setIfInBounds_toArray, List.set_cons_zero, List.set_cons_succ]
      refine wpAnyH_ready (rs := [13]) (by kernel_rfl) (by simp) ?_
      refine (AllReadyH.cons (o := { dst := some 8, op := Op.alloc 98, type := 0, pos := "ref.go:378", after := #[], guard := none }) rfl (fun K hK => ?_) AllReadyH.nil)
      go_simp
      obtain ⟨wz13, hwz⟩ : ∃ v, v = wz12.alloc (Obj.cells #[.int .i64 0, .int .i64 0] 98) := ⟨_, rfl⟩
      rw [← hwz]
      have hl : Below wz12.heap.size wz12 wz13 := by rw [hwz]; exact below_new _ _
      have hbz13 := bthen hbz12 hl
      obtain ⟨G21, hG⟩ : ∃ G, G = wz12.heap.size := ⟨_, rfl⟩
      have i21 : BlkI wz13 G21 98 [0, 0] := by rw [hwz, hG]; exact Blk.new _ _ _
      have g21 : W1.heap.size ≤ G21 := by rw [hG]; exact (hbz12).size
      try (have q2021 : G20 < G21 := by rw [hG]; exact Blk.lt i20)
      rw [← hG]
      clear hG
      clear hwz
      have i20 := i20.carry hl
      clear hl
      refine hK.out _ _ ⟨cellb c0 hbz13, cellb c1 hbz13, cellb c2 hbz13, cellb c3 hbz13⟩ (fun hHeld2 => ?_)
      clear hK K hHeld1
      try simp only [Act.put, List.setIfInBounds_toArray, List.set_cons_zero, List.set_cons_succ]
      refine wpAnyH_ready (rs := [14]) (by kernel_rfl) (by simp) ?_
      refine (AllReadyH.cons (o := { dst := none, op := Op.store 98 (Operand.tmp 7) (Operand.tmp 12), type := 0, pos := "ref.go:378", after := #[{ on := 12, ground := Ground.data }, { on := 3, ground := Ground.data }, { on := 0, ground := Ground.phase }, { on := 1, ground := Ground.phase }, { on := 2, ground := Ground.phase }, { on := 3, ground := Ground.phase }, { on := 4, ground := Ground.textOnly Departure.lateStores }, { on := 5, ground := Ground.textOnly Departure.lateStores }, { on := 6, ground := Ground.textOnly Departure.lateStores }, { on := 7, ground := Ground.textOnly Departure.lateStores }, { on := 8, ground := Ground.textOnly Departure.lateStoresUnsure }, { on := 9, ground := Ground.textOnly Departure.lateStores }, { on := 10, ground := Ground.textOnly Departure.lateStores }, { on := 11, ground := Ground.textOnly Departure.lateStores }, { on := 12, ground := Ground.phase }, { on := 13, ground := Ground.phase }], guard := none }) rfl (fun K hK => ?_) AllReadyH.nil)
      refine wp_storeA _ _ _ rfl G20 [A0, A1] [0, 0] rfl rfl i20 rfl Tryz.infoGauss ?_
      obtain ⟨wz14, hwz⟩ : ∃ v, v = World.setRow wz13 G20 (ia [A0, A1]) := ⟨_, rfl⟩
      rw [← hwz]
      have hbz14 : Below W1.heap.size W1 wz14 := by rw [hwz]; exact below_rowA hbz13 g20 _
      replace i20 := BlkI.setRowA i20 [A0, A1]
      rw [← hwz] at i20
      replace i21 := BlkI.setRowO i21 (B' := G20) (by omega) (ia [A0, A1])
      rw [← hwz] at i21
      clear hwz
      refine hK.out _ _ ⟨cellb c0 hbz14, cellb c1 hbz14, cellb c2 hbz14, cellb c3 hbz14⟩ (fun hHeld3 => ?_)
      clear hK K hHeld2
      try simp only [Act.put, List.setIfInBounds_toArray, List.set_cons_zero, List.set_cons_succ]
      refine wpAnyH_ready (rs := [15]) (by kernel_rfl) (by simp) ?_
      refine (AllReadyH.cons (o := { dst := none, op := Op.store 98 (Operand.tmp 8) (Operand.tmp 20), type := 0, pos := "ref.go:378", after := #[{ on := 13, ground := Ground.data }, { on := 11, ground := Ground.data }, { on := 14, ground := Ground.chain }, { on := 0, ground := Ground.phase }, { on := 1, ground := Ground.phase }, { on := 2, ground := Ground.phase }, { on := 3, ground := Ground.phase }, { on := 4, ground := Ground.phase }, { on := 5, ground := Ground.phase }, { on := 6, ground := Ground.phase }, { on := 7, ground := Ground.phase }, { on := 8, ground := Ground.phase }, { on := 9, ground := Ground.phase }, { on := 10, ground := Ground.phase }, { on := 11, ground := Ground.phase }, { on := 12, ground := Ground.phase }, { on := 13, ground := Ground.phase }, { on := 14, ground := Ground.phase }], guard := none }) rfl (fun K hK => ?_) AllReadyH.nil)
      refine wp_storeA _ _ _ rfl G21 [B0, B1] [0, 0] rfl rfl i21 rfl Tryz.infoGauss ?_
      obtain ⟨wz15, hwz⟩ : ∃ v, v = World.setRow wz14 G21 (ia [B0, B1]) := ⟨_, rfl⟩
      rw [← hwz]
      have hbz15 : Below W1.heap.size W1 wz15 := by rw [hwz]; exact below_rowA hbz14 g21 _
      replace i21 := BlkI.setRowA i21 [B0, B1]
      rw [← hwz] at i21
      replace i20 := BlkI.setRowO i20 (B' := G21) (by omega) (ia [B0, B1])
      rw [← hwz] at i20
      clear hwz
      refine hK.out _ _ ⟨cellb c0 hbz15, cellb c1 hbz15, cellb c2 hbz15, cellb c3 hbz15⟩ (fun hHeld4 => ?_)
      clear hK K hHeld3
      try simp only [Act.put, List.setIfInBounds_toArray, List.set_cons_zero, List.set_cons_succ]
      refine wpAnyH_done (by kernel_rfl) ?_ _
      clear hHeld4
      go_wp2_with fail
      go_meet
      exact ⟨G20, G21, rfl, rfl, i20, i21, hbz15⟩
    · go_simp
      obtain ⟨wz13, hwz⟩ : ∃ v, v = wzd.alloc (Obj.cells #[.int .i64 0, .int .i64 0] 98) := ⟨_, rfl⟩
      rw [← hwz]
      have hl : Below wzd.heap.size wzd wz13 := by rw [hwz]; exact below_new _ _
      have hbz13 := bthen hbzd hl
      obtain ⟨G21, hG⟩ : ∃ G, G = wzd.heap.size := ⟨_, rfl⟩
      have i21 : BlkI wz13 G21 98 [0, 0] := by rw [hwz, hG]; exact Blk.new _ _ _
      have g21 : W1.heap.size ≤ G21 := by rw [hG]; exact (hbzd).size
      try (have q2021 : G20 < G21 := by rw [hG]; exact Blk.lt i20)
      rw [← hG]
      clear hG
      clear hwz
      clear hl
      refine hK.out _ _ ⟨cellb c0 hbz13, cellb c1 hbz13, cellb c2 hbz13, cellb c3 hbz13⟩ (fun hHeld1 => ?_)
      clear hK K hHeld0
      try simp only [Act.put, List.setIfInBounds_toArray, List.set_cons_zero, List.set_cons_succ]
      refine wpAnyH_ready (rs := [12]) (by kernel_rfl) (by simp) ?_
      refine (AllReadyH.cons (o := { dst := some 7, op := Op.alloc 98, type := 0, pos := "ref.go:378", after := #[], guard := none }) rfl (fun K hK => ?_) AllReadyH.nil)
      go_simp
      obtain ⟨wz12, hwz⟩ : ∃ v, v = wz13.alloc (Obj.cells #[.int .i64 0, .int .i64 0] 98) := ⟨_, rfl⟩
      rw [← hwz]
      have hl : Below wz13.heap.size wz13 wz12 := by rw [hwz]; exact below_new _ _
      have hbz12 := bthen hbz13 hl
      obtain ⟨G20, hG⟩ : ∃ G, G = wz13.heap.size := ⟨_, rfl⟩
      have i20 : BlkI wz12 G20 98 [0, 0] := by rw [hwz, hG]; exact Blk.new _ _ _
      have g20 : W1.heap.size ≤ G20 := by rw [hG]; exact (hbz13).size
      try (have q2120 : G21 < G20 := by rw [hG]; exact Blk.lt i21)
      rw [← hG]
      clear hG
      clear hwz
      have i21 := i21.carry hl
      clear hl
      refine hK.out _ _ ⟨cellb c0 hbz12, cellb c1 hbz12, cellb c2 hbz12, cellb c3 hbz12⟩ (fun hHeld2 => ?_)
      clear hK K hHeld1
      try simp only [Act.put, List.setIfInBounds_toArray, List.set_cons_zero, List.set_cons_succ]
      refine wpAnyH_ready (rs := [14]) (by kernel_rfl) (by simp) ?_
      refine (AllReadyH.cons (o := { dst := none, op := Op.store 98 (Operand.tmp 7) (Operand.tmp 12), type := 0, pos := "ref.go:378", after := #[{ on := 12, ground := Ground.data }, { on := 3, ground := Ground.data }, { on := 0, ground := Ground.phase }, { on := 1, ground := Ground.phase }, { on := 2, ground := Ground.phase }, { on := 3, ground := Ground.phase }, { on := 4, ground := Ground.textOnly Departure.lateStores }, { on := 5, ground := Ground.textOnly Departure.lateStores }, { on := 6, ground := Ground.textOnly Departure.lateStores }, { on := 7, ground := Ground.textOnly Departure.lateStores }, { on := 8, ground := Ground.textOnly Departure.lateStoresUnsure }, { on := 9, ground := Ground.textOnly Departure.lateStores }, { on := 10, ground := Ground.textOnly Departure.lateStores }, { on := 11, ground := Ground.textOnly Departure.lateStores }, { on := 12, ground := Ground.phase }, { on := 13, ground := Ground.phase }], guard := none }) rfl (fun K hK => ?_) AllReadyH.nil)
      refine wp_storeA _ _ _ rfl G20 [A0, A1] [0, 0] rfl rfl i20 rfl Tryz.infoGauss ?_
      obtain ⟨wz14, hwz⟩ : ∃ v, v = World.setRow wz12 G20 (ia [A0, A1]) := ⟨_, rfl⟩
      rw [← hwz]
      have hbz14 : Below W1.heap.size W1 wz14 := by rw [hwz]; exact below_rowA hbz12 g20 _
      replace i20 := BlkI.setRowA i20 [A0, A1]
      rw [← hwz] at i20
      replace i21 := BlkI.setRowO i21 (B' := G20) (by omega) (ia [A0, A1])
      rw [← hwz] at i21
      clear hwz
      refine hK.out _ _ ⟨cellb c0 hbz14, cellb c1 hbz14, cellb c2 hbz14, cellb c3 hbz14⟩ (fun hHeld3 => ?_)
      clear hK K hHeld2
      try simp only [Act.put, List.setIfInBounds_toArray, List.set_cons_zero, List.set_cons_succ]
      refine wpAnyH_ready (rs := [15]) (by kernel_rfl) (by simp) ?_
      refine (AllReadyH.cons (o := { dst := none, op := Op.store 98 (Operand.tmp 8) (Operand.tmp 20), type := 0, pos := "ref.go:378", after := #[{ on := 13, ground := Ground.data }, { on := 11, ground := Ground.data }, { on := 14, ground := Ground.chain }, { on := 0, ground := Ground.phase }, { on := 1, ground := Ground.phase }, { on := 2, ground := Ground.phase }, { on := 3, ground := Ground.phase }, { on := 4, ground := Ground.phase }, { on := 5, ground := Ground.phase }, { on := 6, ground := Ground.phase }, { on := 7, ground := Ground.phase }, { on := 8, ground := Ground.phase }, { on := 9, ground := Ground.phase }, { on := 10, ground := Ground.phase }, { on := 11, ground := Ground.phase }, { on := 12, ground := Ground.phase }, { on := 13, ground := Ground.phase }, { on := 14, ground := Ground.phase }], guard := none }) rfl (fun K hK => ?_) AllReadyH.nil)
      refine wp_storeA _ _ _ rfl G21 [B0, B1] [0, 0] rfl rfl i21 rfl Tryz.infoGauss ?_
      obtain ⟨wz15, hwz⟩ : ∃ v, v = World.setRow wz14 G21 (ia [B0, B1]) := ⟨_, rfl⟩
      rw [← hwz]
      have hbz15 : Below W1.heap.size W1 wz15 := by rw [hwz]; exact below_rowA hbz14 g21 _
      replace i21 := BlkI.setRowA i21 [B0, B1]
      rw [← hwz] at i21
      replace i20 := BlkI.setRowO i20 (B' := G21) (by omega) (ia [B0, B1])
      rw [← hwz] at i20
      clear hwz
      refine hK.out _ _ ⟨cellb c0 hbz15, cellb c1 hbz15, cellb c2 hbz15, cellb c3 hbz15⟩ (fun hHeld4 => ?_)
      clear hK K hHeld3
      try simp only [Act.put, List.setIfInBounds_toArray, List.set_cons_zero, List.set_cons_succ]
      refine wpAnyH_done (by kernel_rfl) ?_ _
      clear hHeld4
      go_wp2_with fail
      go_meet
      exact ⟨G20, G21, rfl, rfl, i20, i21, hbz15⟩
  case rest =>
    obtain ⟨b7, b8, rfl, rfl, i7, i8, hbn⟩ := hcut
    have p0 := cellb p0 hbn
    have p1 := cellb p1 hbn
    have hB := bthen hB hbn
    clear hbn c0 c1 c2 c3
    have x0 : wc.cell? ⟨b7, 0, none⟩ = some (.int .i64 A0) := BlkI.cell i7 (j := 0) (by simp)
    have x1 : wc.cell? ⟨b7, 1, none⟩ = some (.int .i64 A1) := BlkI.cell i7 (j := 1) (by simp)
    have y0 : wc.cell? ⟨b8, 0, none⟩ = some (.int .i64 B0) := BlkI.cell i8 (j := 0) (by simp)
    have y1 : wc.cell? ⟨b8, 1, none⟩ = some (.int .i64 B1) := BlkI.cell i8 (j := 1) (by simp)
    go_wp2
    go_ret
    exact ⟨ret_bool (by rw [HR.out]; simp only [Int.zero_sub]), hB⟩

theorem SeparatesR_any (v u : Value) (ls l : List (Int × Int)) (h : Int) (q : Nat) (w : World) (hv : Pairs w v ls) (hl : ls.length ≤ 1000000) (hu : Pairs w u l) (hlu : l.length ≤ 1000000) (hf : fltE ls = 0) (hh : 0 ≤ h ∧ h ≤ 13) (hq : q < l.length) :
    Calls Tryz.prog 37 #[.agg #[v], u, .int .i64 h, .int .i64 q] w fun e w' => e = .returned (.bool (sepB (edgeK l q) ls h)) ∧ Below w.heap.size w w' := by
  have TT := Lib.hid (fun W hP => by
    have := IsTunedR_any v ls h W hP hl
    rw [tuned_same hf hh] at this
    exact this)
  have TS := Lib.hid (fun (ht : tunedB ls h = false) W hP => SusceptanceR_any v ls h W hP hl (susOk_of hf hh ht))
  have TR := Lib.hid (fun s W hP => rightR_any u l q s W hP hlu hq)
  obtain ⟨R, hR⟩ : ∃ R, R = sepB (edgeK l q) ls h := ⟨_, rfl⟩
  rw [← hR]
  rw [sepB] at hR
  have TR2 := Lib.hid (TR.out (susR ls h))
  generalize negB (sideE (edgeK l q) (0, negI (susR ls h).1) (susR ls h).2) = g at TR2 hR
  generalize susR ls h = s at TS TR2
  generalize tunedB ls h = t at TT TS hR
  obtain ⟨s0, s1⟩ := s
  simp only at TS TR2
  have HR := Lib.hid hR
  have HV := Lib.hid hv
  have HU := Lib.hid hu
  obtain ⟨a, cp, rfl, _, _⟩ := id hv
  obtain ⟨a2, cp2, rfl, _, _⟩ := id hu
  clear hv hu hR TR hf
  go_enter Tryz.func37, Tryz.ntmps37
  go_upto_region 1 with fail
  obtain ⟨W1, hW1⟩ : ∃ v, v = World.alloc w (Obj.cells #[.slice a ls.length cp] 47) := ⟨_, rfl⟩
  have kW1 : Below w.heap.size w W1 := by rw [hW1]; exact below_new _ _
  have iW1 : Blk W1 (w.heap.size) 47 [.slice a ls.length cp] := by rw [hW1]; exact Blk.new _ _ _
  have sW1 : W1.heap.size = w.heap.size + 1 := by rw [hW1]; simp
  rw [← hW1]
  clear hW1
  have a0 := iW1.cell (j := 0) (v := .slice a ls.length cp) rfl
  have hB := kW1
  clear iW1 kW1 sW1
  go_wp2_with fail
  refine (TT.out W1 (HV.out.carry hB)).mono ?_
  rintro e W2 ⟨rfl, hb⟩
  have a0 := cellb a0 hb
  replace hB := bthen hB hb
  clear hb
  cases t
  · have TS2 := Lib.hid (TS.out rfl)
    clear TS
    go_wp2_with fail
    refine (TS2.out W2 (HV.out.carry hB)).mono ?_
    rintro e W3 ⟨rfl, hb⟩
    replace hB := bthen hB hb
    clear hb a0
    go_wp2_with fail
    refine (TR2.out W3 (HU.out.carry hB)).mono ?_
    rintro e W4 ⟨rfl, hb⟩
    replace hB := bthen hB hb
    clear hb
    go_wp2
    go_ret
    exact ⟨ret_bool HR.out.symm, hB⟩
  · clear TS
    go_wp2
    go_ret
    exact ⟨ret_bool HR.out.symm, hB⟩
theorem edgesL_len (l : List (Int × Int)) : (edgesL l).length = l.length := upto_length _ _
set_option maxRecDepth 100000 in
set_option maxHeartbeats 4000000 in
theorem EdgeR_any (v u : Value) (ls l : List (Int × Int)) (h : Int) (w : World) (hv : Pairs w v ls) (hl : ls.length ≤ 1000000) (hu : Pairs w u l) (hlu : l.length ≤ 1000000) (hf : fltE ls = 0) (hh : 0 ≤ h ∧ h ≤ 13) :
    Calls Tryz.prog 36 #[.agg #[v], u, .int .i64 h] w fun e w' => e = .returned (.int .i64 (edgL ls l h)) ∧ Below w.heap.size w w' := by
  obtain ⟨n, hn⟩ : ∃ n, n = l.length := ⟨_, rfl⟩
  have TS := Lib.hid (fun q (hq : q < n) W hP hQ => SeparatesR_any v u ls l h q W hP hl hQ hlu hf hh (by rw [← hn]; exact hq))
  obtain ⟨g, hg⟩ : ∃ g : I4 → Bool, g = fun x => sepB x ls h := ⟨_, rfl⟩
  obtain ⟨R, hR⟩ : ∃ R, R = edgL ls l h := ⟨_, rfl⟩
  rw [← hR]
  have hgv : ∀ x, sepB x ls h = g x := fun x => by rw [hg]
  have hR2 : R = findX g (edgesL l) := by rw [hR, hg]; rfl
  have HG := Lib.hid hgv
  have HR := Lib.hid hR2
  have HE := Lib.hid (fun q (hq : q < n) => edgesL_get l q (by rw [← hn]; exact hq))
  have HEL : (edgesL l).length = n := by rw [edgesL_len, hn]
  have HEN := Lib.hid HEL
  have HV := Lib.hid hv
  have HU := Lib.hid hu
  obtain ⟨a, cp, rfl, _, _⟩ := id hv
  obtain ⟨a2, cp2, rfl, _, _⟩ := id hu
  rw [← hn] at hlu HU TS ⊢
  have hlI : (n : Int) ≤ 1000000 := by omega
  clear hv hu hg hgv hR hR2 HEL hf hn
  go_enter Tryz.func36, Tryz.ntmps36
  go_upto_region 1 with fail
  obtain ⟨W1, hW1⟩ : ∃ v, v = World.alloc w (Obj.cells #[.slice a ls.length cp] 47) := ⟨_, rfl⟩
  have kW1 : Below w.heap.size w W1 := by rw [hW1]; exact below_new _ _
  have iW1 : Blk W1 (w.heap.size) 47 [.slice a ls.length cp] := by rw [hW1]; exact Blk.new _ _ _
  have sW1 : W1.heap.size = w.heap.size + 1 := by rw [hW1]; simp
  rw [← hW1]
  clear hW1
  have i1 := iW1
  have hB := kW1
  clear iW1 kW1 sW1
  go_wp2_with fail
  go_loopw [7] (fun i wr => ∃ k : Nat, k ≤ n ∧ i = .int .i64 k ∧ ((edgesL l).take k).any g = false ∧ Blk wr w.heap.size 47 [.slice a ls.length cp] ∧ Below w.heap.size w wr) (fun i _ => n - (intOf i).toNat)
  case atStart => exact ⟨0, by omega, rfl, by simp, i1, hB⟩
  case round =>
    clear i1 hB
    obtain ⟨k, hk, rfl, hno, i1, hB⟩ := hrel
    have HNO := Lib.hid hno
    clear hno
    have a0 := i1.cell (j := 0) (v := .slice a ls.length cp) rfl
    by_cases hlt : k < n
    · have d1 : (k : Int) < (n : Int) := by omega
      have TS2 := Lib.hid (TS.out k hlt)
      have hx := HE.out k hlt
      generalize edgeK l k = x at TS2 hx
      rw [HG.out] at TS2
      have HX := Lib.hid hx
      obtain ⟨q, hq⟩ : ∃ q, q = g x := ⟨_, rfl⟩
      rw [← hq] at TS2
      have HQ := Lib.hid hq
      clear hx hq
      go_wp2_with fail
      refine (TS2.out wr (HV.out.carry hB) (HU.out.carry hB)).mono ?_
      rintro e W2 ⟨rfl, hb⟩
      replace i1 := i1.carry hb
      replace hB := bthen hB hb
      clear hb a0
      cases q
      · go_wp2_with fail
        go_roundw
        case rel => exact ⟨k + 1, by omega, by go_num, anyX_take_succ HX.out HNO.out HQ.out.symm, i1, hB⟩
        case measure => simp [intOf]; omega
      · have hR := HR.out.trans (findX_some HX.out HNO.out HQ.out.symm)
        have HR2 := Lib.hid hR
        clear hR
        go_wp2
        go_ret
        exact ⟨ret_int HR2.out.symm, hB⟩
    · obtain rfl : k = n := by omega
      have hR : R = -1 := HR.out.trans (findX_none (by have h := HNO.out; rwa [List.take_of_length_le (by rw [HEN.out]; exact Nat.le_refl _)] at h))
      have HR2 := Lib.hid hR
      clear hR
      go_wp2
      go_ret
      exact ⟨ret_int HR2.out.symm, hB⟩
/-- both ways to ask whether a filter meets a polygon. -/
theorem meet_edge (ls l : List (Int × Int)) (h : Int) (h0 : 0 < l.length) : meetB ls l h = negB (edgL ls l h) := by
  unfold meetB edgL outL
  cases ht : tunedB ls h
  · have : (fun x => sepB x ls h) = fun x => negB (sideE x (0, negI (susR ls h).1) (susR ls h).2) := by
      funext x; rw [sepB, ht]; rfl
    rw [this]; rfl
  · have h1 : findX (fun x => sepB x ls h) (edgesL l) = 0 :=
      findX_some (k := 0) (edgesL_get l 0 h0) (by simp) (by rw [sepB, ht]; rfl)
    rw [h1]; rfl
theorem MeetsR_any (v u : Value) (ls l : List (Int × Int)) (h : Int) (w : World) (hv : Pairs w v ls) (hl : ls.length ≤ 1000000) (hu : Pairs w u l) (hlu : l.length ≤ 1000000) (hf : fltE ls = 0) (hh : 0 ≤ h ∧ h ≤ 13) (h0 : 0 < l.length) :
    Calls Tryz.prog 35 #[.agg #[v], u, .int .i64 h] w fun e w' => e = .returned (.bool (meetB ls l h)) ∧ Below w.heap.size w w' := by
  have TE := Lib.hid (fun W hP hQ => EdgeR_any v u ls l h W hP hl hQ hlu hf hh)
  rw [meet_edge ls l h h0]
  generalize edgL ls l h = x at TE ⊢
  have HV := Lib.hid hv
  have HU := Lib.hid hu
  obtain ⟨a, cp, rfl, _, _⟩ := id hv
  obtain ⟨a2, cp2, rfl, _, _⟩ := id hu
  clear hv hu hf
  go_enter Tryz.func35, Tryz.ntmps35
  go_upto_region 1 with fail
  obtain ⟨W1, hW1⟩ : ∃ v, v = World.alloc w (Obj.cells #[.slice a ls.length cp] 47) := ⟨_, rfl⟩
  have kW1 : Below w.heap.size w W1 := by rw [hW1]; exact below_new _ _
  have iW1 : Blk W1 (w.heap.size) 47 [.slice a ls.length cp] := by rw [hW1]; exact Blk.new _ _ _
  have sW1 : W1.heap.size = w.heap.size + 1 := by rw [hW1]; simp
  rw [← hW1]
  clear hW1
  have a0 := iW1.cell (j := 0) (v := .slice a ls.length cp) rfl
  have hB := kW1
  clear iW1 kW1 sW1
  go_wp2_with fail
  refine (TE.out W1 (HV.out.carry hB) (HU.out.carry hB)).mono ?_
  rintro e W2 ⟨rfl, hb⟩
  replace hB := bthen hB hb
  clear hb a0
  go_wp2
  go_ret
  exact ⟨ret_bool rfl, hB⟩
end

section
set_option linter.unusedSimpArgs false
set_option linter.unusedVariables false
open Go.RowKit

theorem ordS_zero (h : Int) : ordS 0 h = firstE [withinE h 1 12, 0] := by
  unfold ordS
  by_cases c : withinE h 1 12 = 0
  · have := withinE_zero c
    have e : decide (h ≤ 0) = false := decide_eq_false (by omega)
    rw [e]; rfl
  · simp [firstE, c]
set_option maxRecDepth 100000 in
set_option maxHeartbeats 4000000 in
theorem CheckOrdersR_any (v : Value) (l : List Int) (w : World) (hv : Ints w v l) (hl : l.length ≤ 1000000) :
    Calls Tryz.prog 34 #[v] w fun e w' => e = .returned (.int .i64 (ordE l)) ∧ Below w.heap.size w w' := by
  obtain ⟨n, hn⟩ : ∃ n, n = l.length := ⟨_, rfl⟩
  obtain ⟨a, cp, rfl, hc0, hcs0⟩ := hv
  have hcs : ∀ k : Nat, k < l.length → ∃ b off h, a = some ⟨b, off, none⟩ ∧ l[k]? = some h ∧ w.cell? ⟨b, off + k, none⟩ = some (.int .i64 h) := fun k hk => by
    obtain ⟨b, off, rfl, hc⟩ := hcs0 (by omega)
    have := hc k hk
    rw [List.getElem?_eq_getElem hk] at this
    exact ⟨b, off, _, rfl, List.getElem?_eq_getElem hk, this⟩
  obtain ⟨E, hE⟩ : ∃ E, E = ordE l := ⟨_, rfl⟩
  rw [← hE]
  rw [ordE, ordN] at hE
  have T1 := Lib.hid (fun W => WhenR_any ((l.length : Int) == 0) 12 W)
  have T2 := Lib.hid (fun W => WhenR_any (decide ((12 : Int) < l.length)) 5 W)
  generalize whenE ((l.length : Int) == 0) 12 = e1 at T1 hE
  generalize whenE (decide ((12 : Int) < l.length)) 5 = e2 at T2 hE
  have TF := Lib.hid (fun (u : Value) (W : World) (h : Ints W u [e1, e2]) => FirstR_any u [e1, e2] W (by simp) h)
  generalize firstE [e1, e2] = eN at TF hE
  rw [← hn] at T1 T2 hcs hc0 hl ⊢
  have HC := Lib.hid hcs
  have HE := Lib.hid hE
  have HN := Lib.hid hn
  clear hcs hcs0 hE hc0 hn
  go_enter Tryz.func34, Tryz.ntmps34
  go_wp2_with fail
  refine (T1.out w).mono ?_
  rintro e w' ⟨rfl, rfl⟩
  go_wp2_with fail
  refine (T2.out w).mono ?_
  rintro e w' ⟨rfl, rfl⟩
  go_wp2_with fail
  obtain ⟨W1, hW1⟩ : ∃ v, v = World.alloc w (Obj.cells #[.int .i64 e1, .int .i64 e2] 3) := ⟨_, rfl⟩
  have kW1 : Below w.heap.size w W1 := by rw [hW1]; exact below_new _ _
  have iW1 : Blk W1 (w.heap.size) 3 [.int .i64 e1, .int .i64 e2] := by rw [hW1]; exact Blk.new _ _ _
  have sW1 : W1.heap.size = w.heap.size + 1 := by rw [hW1]; simp
  rw [← hW1]
  clear hW1
  refine (TF.out _ W1 (BlkI.ints (l := [e1, e2]) iW1 rfl)).mono ?_
  rintro e w' ⟨rfl, rfl⟩
  have hB := kW1
  clear kW1 iW1 sW1 T1 T2 TF
  by_cases he : eN = 0
  · subst he
    have hE := HE.out
    rw [orE, if_pos rfl] at hE
    have HE2 := Lib.hid hE
    clear HE hE
    go_wp2_with fail
    go_loopw [4] (fun i wr => ∃ k : Nat, k ≤ n ∧ i = .int .i64 k ∧ E = ordC (lastK l k) (l.drop k) ∧ Below w.heap.size w wr) (fun i _ => n - (intOf i).toNat)
    case atStart => exact ⟨0, by omega, rfl, by rw [HE2.out]; rfl, hB⟩
    case round =>
      clear hB
      obtain ⟨k, hk, rfl, hEk, hB⟩ := hrel
      by_cases hlt : k < n
      · obtain ⟨b, off, h, rfl, hx, c0⟩ := HC.out k hlt
        have c0 := cellb c0 hB
        have hd := ordC_drop l k h hx
        rw [← hEk] at hd
        have hl1 : lastK l (k + 1) = h := by rw [lastK, hx]; rfl
        rw [hl1] at hd
        obtain ⟨EN, hEN⟩ : ∃ EN, EN = ordC h (l.drop (k + 1)) := ⟨_, rfl⟩
        rw [← hEN] at hd
        have HEN := Lib.hid hEN
        have HL1 := Lib.hid hl1
        have d1 : (k : Int) < (n : Int) := by omega
        obtain ⟨sN, hsn⟩ : ∃ s, s = ordS (lastK l k) h := ⟨_, rfl⟩
        rw [← hsn] at hd
        have HSN := Lib.hid hsn
        have HD := Lib.hid hd
        clear hEk hEN hl1 hsn hd
        go_wp2_with fail
        go_cut [5] from 25 to 48 (fun u5 wn => u5 = .int .i64 sN ∧ Below wr.heap.size wr wn)
        case first =>
          clear hx
          rcases Nat.eq_zero_or_pos k with hk0 | hk0
          · subst hk0
            rw [Nat.add_zero] at c0
            have d1 : (0 : Int) < (n : Int) := by omega
            have hs2 : sN = firstE [withinE h 1 12, 0] := HSN.out.trans (ordS_zero h)
            have TO := Lib.hid (fun W => CheckOrderR_any h W)
            have T2 := Lib.hid (fun W => show Calls Tryz.prog 33 #[.bool false, .int .i64 11] W fun r w' => r = .returned (.int .i64 0) ∧ W = w' from WhenR_any false 11 W)
            generalize withinE h 1 12 = s1 at TO hs2
            have TF := Lib.hid (fun (u : Value) (W : World) (h : Ints W u [s1, 0]) => FirstR_any u [s1, 0] W (by simp) h)
            rw [← hs2] at TF
            clear hs2
            refine wp_region_E 99 (by kernel_rfl) ?_
            obtain ⟨wz, hwz⟩ : ∃ v, v = wr.drew := ⟨_, rfl⟩
            rw [← hwz]
            have hlz : Below wr.heap.size wr wz := by rw [hwz]; exact (Below.refl _ _).drew
            have hbz := bthen (Below.refl _ _) hlz
            have c0 := cellb c0 hlz
            clear hwz hlz
            refine wpAnyE_take (i := 0) (oi := { dst := some 25, op := Op.move (Operand.tmp 0), type := 27, pos := "ref.go:406", after := #[], guard := none }) (v := ?_) rfl (by kernel_rfl) (by kernel_rfl) (by kernel_rfl) (by kernel_rfl) (fun _ _ _ h => h) (Or.inl ⟨by rfl, ?_⟩) ?_
            rotate_left
            · (intro w hE; have c0 := cellb c0 hE; (try dsimp only); go_simp); (try with_reducible rfl)
            try simp only [Act.put, List.setIfInBounds_toArray, List.set_cons_zero, List.set_cons_succ]
            refine wpAnyE_take (i := 1) (oi := { dst := some 26, op := Op.move (Operand.tmp 4), type := 3, pos := "ref.go:406", after := #[], guard := none }) (v := ?_) rfl (by kernel_rfl) (by kernel_rfl) (by kernel_rfl) (by kernel_rfl) (fun _ _ _ h => h) (Or.inl ⟨by rfl, ?_⟩) ?_
            rotate_left
            · (intro w hE; have c0 := cellb c0 hE; (try dsimp only); go_simp); (try with_reducible rfl)
            try simp only [Act.put, List.setIfInBounds_toArray, List.set_cons_zero, List.set_cons_succ]
            refine wpAnyE_take (i := 2) (oi := { dst := some 27, op := Op.indexAddr 27 (Operand.tmp 25) (Operand.tmp 26), type := 0, pos := "ref.go:406", after := #[{ on := 0, ground := Ground.data }, { on := 1, ground := Ground.data }], guard := none }) (v := ?_) rfl (by kernel_rfl) (by kernel_rfl) (by kernel_rfl) (by kernel_rfl) (fun _ _ _ h => h) (Or.inl ⟨by rfl, ?_⟩) ?_
            rotate_left
            · (intro w hE; have c0 := cellb c0 hE; (try dsimp only); go_simp); (try with_reducible rfl)
            try simp only [Act.put, List.setIfInBounds_toArray, List.set_cons_zero, List.set_cons_succ]
            refine wpAnyE_take (i := 3) (oi := { dst := some 28, op := Op.load 3 (Operand.tmp 27), type := 3, pos := "ref.go:406", after := #[{ on := 2, ground := Ground.data }], guard := none }) (v := ?_) rfl (by kernel_rfl) (by kernel_rfl) (by kernel_rfl) (by kernel_rfl) (fun _ _ _ h => h) (Or.inl ⟨by rfl, ?_⟩) ?_
            rotate_left
            · (intro w hE; have c0 := cellb c0 hE; (try dsimp only); go_simp); (try with_reducible rfl)
            try simp only [Act.put, List.setIfInBounds_toArray, List.set_cons_zero, List.set_cons_succ]
            refine wpAnyE_take (i := 5) (oi := { dst := some 30, op := Op.move (Operand.tmp 4), type := 3, pos := "ref.go:406", after := #[], guard := none }) (v := ?_) rfl (by kernel_rfl) (by kernel_rfl) (by kernel_rfl) (by kernel_rfl) (fun _ _ _ h => h) (Or.inl ⟨by rfl, ?_⟩) ?_
            rotate_left
            · (intro w hE; have c0 := cellb c0 hE; (try dsimp only); go_simp); (try with_reducible rfl)
            try simp only [Act.put, List.setIfInBounds_toArray, List.set_cons_zero, List.set_cons_succ]
            refine wpAnyE_take (i := 6) (oi := { dst := some 31, op := Op.binOp BinOp.gtr 3 (Operand.tmp 30) (Operand.const (Value.int IntKind.i64 0)) 3, type := 4, pos := "ref.go:406", after := #[{ on := 5, ground := Ground.data }], guard := none }) (v := ?_) rfl (by kernel_rfl) (by kernel_rfl) (by kernel_rfl) (by kernel_rfl) (fun _ _ _ h => h) (Or.inl ⟨by rfl, ?_⟩) ?_
            rotate_left
            · (intro w hE; have c0 := cellb c0 hE; (try dsimp only); go_simp); (try with_reducible rfl)
            try simp only [Act.put, List.setIfInBounds_toArray, List.set_cons_zero, List.set_cons_succ]
            refine wpAnyE_call (i := 4) (oi := { dst := some 29, op := Op.call { callee := Callee.value (Operand.func 32), args := #[Operand.tmp 28], argTypes := #[3] }, type := 3, pos := "ref.go:406", after := #[{ on := 3, ground := Ground.data }], guard := none }) (fun w hE => ofPure (TO.out w)) rfl (by kernel_rfl) (by kernel_rfl) (by kernel_rfl) (by kernel_rfl) (fun _ _ _ h => h) (by rfl) (fun w hE => by (try dsimp only); go_simp) ?_
            try simp only [Act.put, List.setIfInBounds_toArray, List.set_cons_zero, List.set_cons_succ]
            refine wpAnyE_take (i := 7) (oi := { dst := some 32, op := Op.move (Operand.tmp 31), type := 4, pos := "ref.go:406", after := #[{ on := 6, ground := Ground.data }, { on := 4, ground := Ground.chain }], guard := none }) (v := ?_) rfl (by kernel_rfl) (by kernel_rfl) (by kernel_rfl) (by kernel_rfl) (fun _ _ _ h => h) (Or.inl ⟨by rfl, ?_⟩) ?_
            rotate_left
            · (intro w hE; have c0 := cellb c0 hE; (try dsimp only); go_simp); (try with_reducible rfl)
            try simp only [Act.put, List.setIfInBounds_toArray, List.set_cons_zero, List.set_cons_succ]
            refine wpAnyE_take (i := 8) (oi := { dst := some 33, op := Op.move (Operand.tmp 0), type := 27, pos := "ref.go:406", after := #[{ on := 7, ground := Ground.guard }], guard := some (7, true) }) (v := undef) rfl (by kernel_rfl) (by kernel_rfl) (by kernel_rfl) (by kernel_rfl) (fun _ _ _ h => h) (Or.inr (Or.inr ⟨by rfl, rfl⟩)) ?_
            try simp only [Act.put, List.setIfInBounds_toArray, List.set_cons_zero, List.set_cons_succ]
            refine wpAnyE_take (i := 9) (oi := { dst := some 34, op := Op.move (Operand.tmp 4), type := 3, pos := "ref.go:406", after := #[{ on := 7, ground := Ground.guard }], guard := some (7, true) }) (v := undef) rfl (by kernel_rfl) (by kernel_rfl) (by kernel_rfl) (by kernel_rfl) (fun _ _ _ h => h) (Or.inr (Or.inr ⟨by rfl, rfl⟩)) ?_
            try simp only [Act.put, List.setIfInBounds_toArray, List.set_cons_zero, List.set_cons_succ]
            refine wpAnyE_take (i := 10) (oi := { dst := some 35, op := Op.binOp BinOp.sub 3 (Operand.tmp 34) (Operand.const (Value.int IntKind.i64 1)) 3, type := 3, pos := "ref.go:406", after := #[{ on := 9, ground := Ground.data }, { on := 7, ground := Ground.guard }], guard := some (7, true) }) (v := undef) rfl (by kernel_rfl) (by kernel_rfl) (by kernel_rfl) (by kernel_rfl) (fun _ _ _ h => h) (Or.inr (Or.inr ⟨by rfl, rfl⟩)) ?_
            try simp only [Act.put, List.setIfInBounds_toArray, List.set_cons_zero, List.set_cons_succ]
            refine wpAnyE_take (i := 11) (oi := { dst := some 36, op := Op.call { callee := Callee.builtin Builtin.max, args := #[Operand.const (Value.int IntKind.i64 0), Operand.tmp 35], argTypes := #[3, 3] }, type := 3, pos := "ref.go:406", after := #[{ on := 10, ground := Ground.data }, { on := 7, ground := Ground.guard }], guard := some (7, true) }) (v := undef) rfl (by kernel_rfl) (by kernel_rfl) (by kernel_rfl) (by kernel_rfl) (fun _ _ _ h => h) (Or.inr (Or.inr ⟨by rfl, rfl⟩)) ?_
            try simp only [Act.put, List.setIfInBounds_toArray, List.set_cons_zero, List.set_cons_succ]
            refine wpAnyE_take (i := 12) (oi := { dst := some 37, op := Op.indexAddr 27 (Operand.tmp 33) (Operand.tmp 36), type := 0, pos := "ref.go:406", after := #[{ on := 8, ground := Ground.data }, { on := 11, ground := Ground.data }, { on := 7, ground := Ground.guard }], guard := some (7, true) }) (v := undef) rfl (by kernel_rfl) (by kernel_rfl) (by kernel_rfl) (by kernel_rfl) (fun _ _ _ h => h) (Or.inr (Or.inr ⟨by rfl, rfl⟩)) ?_
            try simp only [Act.put, List.setIfInBounds_toArray, List.set_cons_zero, List.set_cons_succ]
            refine wpAnyE_take (i := 13) (oi := { dst := some 38, op := Op.load 3 (Operand.tmp 37), type := 3, pos := "ref.go:406", after := #[{ on := 12, ground := Ground.data }, { on := 7, ground := Ground.guard }], guard := some (7, true) }) (v := undef) rfl (by kernel_rfl) (by kernel_rfl) (by kernel_rfl) (by kernel_rfl) (fun _ _ _ h => h) (Or.inr (Or.inr ⟨by rfl, rfl⟩)) ?_
            try simp only [Act.put, List.setIfInBounds_toArray, List.set_cons_zero, List.set_cons_succ]
            refine wpAnyE_take (i := 14) (oi := { dst := some 39, op := Op.move (Operand.tmp 0), type := 27, pos := "ref.go:406", after := #[{ on := 7, ground := Ground.guard }], guard := some (7, true) }) (v := undef) rfl (by kernel_rfl) (by kernel_rfl) (by kernel_rfl) (by kernel_rfl) (fun _ _ _ h => h) (Or.inr (Or.inr ⟨by rfl, rfl⟩)) ?_
            try simp only [Act.put, List.setIfInBounds_toArray, List.set_cons_zero, List.set_cons_succ]
            refine wpAnyE_take (i := 15) (oi := { dst := some 40, op := Op.move (Operand.tmp 4), type := 3, pos := "ref.go:406", after := #[{ on := 7, ground := Ground.guard }], guard := some (7, true) }) (v := undef) rfl (by kernel_rfl) (by kernel_rfl) (by kernel_rfl) (by kernel_rfl) (fun _ _ _ h => h) (Or.inr (Or.inr ⟨by rfl, rfl⟩)) ?_
            try simp only [Act.put, List.setIfInBounds_toArray, List.set_cons_zero, List.set_cons_succ]
            refine wpAnyE_take (i := 16) (oi := { dst := some 41, op := Op.indexAddr 27 (Operand.tmp 39) (Operand.tmp 40), type := 0, pos := "ref.go:406", after := #[{ on := 14, ground := Ground.data }, { on := 15, ground := Ground.data }, { on := 7, ground := Ground.guard }], guard := some (7, true) }) (v := undef) rfl (by kernel_rfl) (by kernel_rfl) (by kernel_rfl) (by kernel_rfl) (fun _ _ _ h => h) (Or.inr (Or.inr ⟨by rfl, rfl⟩)) ?_
            try simp only [Act.put, List.setIfInBounds_toArray, List.set_cons_zero, List.set_cons_succ]
            refine wpAnyE_take (i := 17) (oi := { dst := some 42, op := Op.load 3 (Operand.tmp 41), type := 3, pos := "ref.go:406", after := #[{ on := 16, ground := Ground.data }, { on := 7, ground := Ground.guard }], guard := some (7, true) }) (v := undef) rfl (by kernel_rfl) (by kernel_rfl) (by kernel_rfl) (by kernel_rfl) (fun _ _ _ h => h) (Or.inr (Or.inr ⟨by rfl, rfl⟩)) ?_
            try simp only [Act.put, List.setIfInBounds_toArray, List.set_cons_zero, List.set_cons_succ]
            refine wpAnyE_take (i := 18) (oi := { dst := some 43, op := Op.binOp BinOp.geq 3 (Operand.tmp 38) (Operand.tmp 42) 3, type := 4, pos := "ref.go:406", after := #[{ on := 13, ground := Ground.data }, { on := 17, ground := Ground.data }, { on := 7, ground := Ground.guard }], guard := some (7, true) }) (v := undef) rfl (by kernel_rfl) (by kernel_rfl) (by kernel_rfl) (by kernel_rfl) (fun _ _ _ h => h) (Or.inr (Or.inr ⟨by rfl, rfl⟩)) ?_
            try simp only [Act.put, List.setIfInBounds_toArray, List.set_cons_zero, List.set_cons_succ]
            refine wpAnyE_take (i := 19) (oi := { dst := some 44, op := Op.pick (Operand.tmp 32) (Operand.tmp 43) (Operand.const (Value.bool false)), type := 4, pos := "ref.go:406", after := #[{ on := 7, ground := Ground.data }, { on := 18, ground := Ground.data }], guard := none }) (v := ?_) rfl (by kernel_rfl) (by kernel_rfl) (by kernel_rfl) (by kernel_rfl) (fun _ _ _ h => h) (Or.inl ⟨by rfl, ?_⟩) ?_
            rotate_left
            · (intro w hE; have c0 := cellb c0 hE; (try dsimp only); go_simp); (try with_reducible rfl)
            try simp only [Act.put, List.setIfInBounds_toArray, List.set_cons_zero, List.set_cons_succ]
            refine wpAnyE_call (i := 20) (oi := { dst := some 45, op := Op.call { callee := Callee.value (Operand.func 33), args := #[Operand.tmp 44, Operand.const (Value.int IntKind.i64 11)], argTypes := #[4, 3] }, type := 3, pos := "ref.go:406", after := #[{ on := 19, ground := Ground.data }, { on := 7, ground := Ground.chain }], guard := none }) (fun w hE => ofPure (T2.out w)) rfl (by kernel_rfl) (by kernel_rfl) (by kernel_rfl) (by kernel_rfl) (fun _ _ _ h => h) (by rfl) (fun w hE => by (try dsimp only); go_simp) ?_
            try simp only [Act.put, List.setIfInBounds_toArray, List.set_cons_zero, List.set_cons_succ]
            refine wpAnyE_one (i := 21) (o := { dst := some 46, op := Op.buildSlice 27 2 #[(0, Operand.tmp 29), (1, Operand.tmp 45)], type := 27, pos := "ref.go:406", after := #[{ on := 4, ground := Ground.data }, { on := 20, ground := Ground.data }], guard := none }) (by kernel_rfl) rfl (fun wy1 hE K hK => ?_)
            have c0 := cellb c0 hE
            have hbz1 := bthen hbz hE
            clear hE
            go_simp
            obtain ⟨wx1, hwz⟩ : ∃ v, v = wy1.alloc (Obj.cells #[.int .i64 s1, .int .i64 0] 3) := ⟨_, rfl⟩
            rw [← hwz]
            have hl : Below wy1.heap.size wy1 wx1 := by rw [hwz]; exact below_new _ _
            have hcz1 := bthen hbz1 hl
            have iN : BlkI wx1 wy1.heap.size 3 [s1, 0] := by rw [hwz]; exact Blk.new _ _ _
            generalize wy1.heap.size = G at iN ⊢
            have c0 := cellb c0 hl
            clear hwz
            refine hK _ _ (fun _ => hl) ?_
            clear hK K hl
            try simp only [Act.put, List.setIfInBounds_toArray, List.set_cons_zero, List.set_cons_succ]
            refine wpAnyE_call (i := 22) (oi := { dst := some 47, op := Op.call { callee := Callee.value (Operand.func 76), args := #[Operand.tmp 46], argTypes := #[27] }, type := 3, pos := "ref.go:406", after := #[{ on := 21, ground := Ground.data }, { on := 20, ground := Ground.chain }], guard := none }) (fun w hE => ofPure (TF.out _ w ((BlkI.ints (l := [s1, 0]) iN rfl).carry hE))) rfl (by kernel_rfl) (by kernel_rfl) (by kernel_rfl) (by kernel_rfl) (fun _ _ _ h => h) (by rfl) (fun w hE => by (try dsimp only); go_simp) ?_
            try simp only [Act.put, List.setIfInBounds_toArray, List.set_cons_zero, List.set_cons_succ]
            refine wpAnyE_take (i := 23) (oi := { dst := some 5, op := Op.assign (Operand.tmp 47), type := 3, pos := "ref.go:406", after := #[{ on := 22, ground := Ground.data }, { on := 22, ground := Ground.chain }, { on := 0, ground := Ground.phase }, { on := 1, ground := Ground.phase }, { on := 2, ground := Ground.phase }, { on := 3, ground := Ground.phase }, { on := 4, ground := Ground.phase }, { on := 5, ground := Ground.phase }, { on := 6, ground := Ground.phase }, { on := 7, ground := Ground.phase }, { on := 8, ground := Ground.phase }, { on := 9, ground := Ground.phase }, { on := 10, ground := Ground.phase }, { on := 11, ground := Ground.phase }, { on := 12, ground := Ground.phase }, { on := 13, ground := Ground.phase }, { on := 14, ground := Ground.phase }, { on := 15, ground := Ground.phase }, { on := 16, ground := Ground.phase }, { on := 17, ground := Ground.phase }, { on := 18, ground := Ground.phase }, { on := 19, ground := Ground.phase }, { on := 20, ground := Ground.phase }, { on := 21, ground := Ground.phase }, { on := 22, ground := Ground.phase }], guard := none }) (v := ?_) rfl (by kernel_rfl) (by kernel_rfl) (by kernel_rfl) (by kernel_rfl) (fun _ _ _ h => h) (Or.inl ⟨by rfl, ?_⟩) ?_
            rotate_left
            · (intro w hE; have c0 := cellb c0 hE; (try dsimp only); go_simp); (try with_reducible rfl)
            try simp only [Act.put, List.setIfInBounds_toArray, List.set_cons_zero, List.set_cons_succ]
            refine wpAnyE_done (by kernel_rfl) (fun wy2 hE => ?_) _
            have hbz2 := bthen hcz1 hE
            have c0 := cellb c0 hE
            have iN := iN.carry hE
            clear hE
            have hB := hbz2
            go_wp2_with fail
            go_meet
            exact ⟨rfl, hB⟩
          · obtain ⟨j, hj⟩ : ∃ j, k = j + 1 := ⟨k - 1, by omega⟩
            obtain ⟨b', off', g, hbb, hy, c1⟩ := HC.out j (by omega)
            obtain ⟨rfl, rfl⟩ : b' = b ∧ off' = off := by simp at hbb; exact ⟨hbb.1.symm, hbb.2.symm⟩
            have c1 := cellb c1 hB
            have hs2 : sN = firstE [withinE h 1 12, whenE (decide (h ≤ g)) 11] := by
              rw [HSN.out, hj, lastK, hy]; rfl
            have TO := Lib.hid (fun W => CheckOrderR_any h W)
            have T2 := Lib.hid (fun W => WhenR_any (decide (h ≤ g)) 11 W)
            generalize withinE h 1 12 = s1 at TO hs2
            generalize whenE (decide (h ≤ g)) 11 = s2 at T2 hs2
            have TF := Lib.hid (fun (u : Value) (W : World) (h : Ints W u [s1, s2]) => FirstR_any u [s1, s2] W (by simp) h)
            rw [← hs2] at TF
            have ep : (0 : Int) < (k : Int) := by omega
            have e1 : IntKind.i64.wrap ((k : Int) - 1) = (j : Int) := (IntWalk.i64_in _ (by omega)).trans (by omega)
            have e2 : (0 : Int) ≤ (j : Int) := by omega
            have e3 : (j : Int) < (n : Int) := by omega
            clear hs2 hy hbb hj ep
            refine wp_region_E 99 (by kernel_rfl) ?_
            obtain ⟨wz, hwz⟩ : ∃ v, v = wr.drew := ⟨_, rfl⟩
            rw [← hwz]
            have hlz : Below wr.heap.size wr wz := by rw [hwz]; exact (Below.refl _ _).drew
            have hbz := bthen (Below.refl _ _) hlz
            have c0 := cellb c0 hlz
            have c1 := cellb c1 hlz
            clear hwz hlz
            refine wpAnyE_take (i := 0) (oi := { dst := some 25, op := Op.move (Operand.tmp 0), type := 27, pos := "ref.go:406", after := #[], guard := none }) (v := ?_) rfl (by kernel_rfl) (by kernel_rfl) (by kernel_rfl) (by kernel_rfl) (fun _ _ _ h => h) (Or.inl ⟨by rfl, ?_⟩) ?_
            rotate_left
            · (intro w hE; have c0 := cellb c0 hE; have c1 := cellb c1 hE; (try dsimp only); go_simp); (try with_reducible rfl)
            try simp only [Act.put, List.setIfInBounds_toArray, List.set_cons_zero, List.set_cons_succ]
            refine wpAnyE_take (i := 1) (oi := { dst := some 26, op := Op.move (Operand.tmp 4), type := 3, pos := "ref.go:406", after := #[], guard := none }) (v := ?_) rfl (by kernel_rfl) (by kernel_rfl) (by kernel_rfl) (by kernel_rfl) (fun _ _ _ h => h) (Or.inl ⟨by rfl, ?_⟩) ?_
            rotate_left
            · (intro w hE; have c0 := cellb c0 hE; have c1 := cellb c1 hE; (try dsimp only); go_simp); (try with_reducible rfl)
            try simp only [Act.put, List.setIfInBounds_toArray, List.set_cons_zero, List.set_cons_succ]
            refine wpAnyE_take (i := 2) (oi := { dst := some 27, op := Op.indexAddr 27 (Operand.tmp 25) (Operand.tmp 26), type := 0, pos := "ref.go:406", after := #[{ on := 0, ground := Ground.data }, { on := 1, ground := Ground.data }], guard := none }) (v := ?_) rfl (by kernel_rfl) (by kernel_rfl) (by kernel_rfl) (by kernel_rfl) (fun _ _ _ h => h) (Or.inl ⟨by rfl, ?_⟩) ?_
            rotate_left
            · (intro w hE; have c0 := cellb c0 hE; have c1 := cellb c1 hE; (try dsimp only); go_simp); (try with_reducible rfl)
            try simp only [Act.put, List.setIfInBounds_toArray, List.set_cons_zero, List.set_cons_succ]
            refine wpAnyE_take (i := 3) (oi := { dst := some 28, op := Op.load 3 (Operand.tmp 27), type := 3, pos := "ref.go:406", after := #[{ on := 2, ground := Ground.data }], guard := none }) (v := ?_) rfl (by kernel_rfl) (by kernel_rfl) (by kernel_rfl) (by kernel_rfl) (fun _ _ _ h => h) (Or.inl ⟨by rfl, ?_⟩) ?_
            rotate_left
            · (intro w hE; have c0 := cellb c0 hE; have c1 := cellb c1 hE; (try dsimp only); go_simp); (try with_reducible rfl)
            try simp only [Act.put, List.setIfInBounds_toArray, List.set_cons_zero, List.set_cons_succ]
            refine wpAnyE_take (i := 5) (oi := { dst := some 30, op := Op.move (Operand.tmp 4), type := 3, pos := "ref.go:406", after := #[], guard := none }) (v := ?_) rfl (by kernel_rfl) (by kernel_rfl) (by kernel_rfl) (by kernel_rfl) (fun _ _ _ h => h) (Or.inl ⟨by rfl, ?_⟩) ?_
            rotate_left
            · (intro w hE; have c0 := cellb c0 hE; have c1 := cellb c1 hE; (try dsimp only); go_simp); (try with_reducible rfl)
            try simp only [Act.put, List.setIfInBounds_toArray, List.set_cons_zero, List.set_cons_succ]
            refine wpAnyE_take (i := 6) (oi := { dst := some 31, op := Op.binOp BinOp.gtr 3 (Operand.tmp 30) (Operand.const (Value.int IntKind.i64 0)) 3, type := 4, pos := "ref.go:406", after := #[{ on := 5, ground := Ground.data }], guard := none }) (v := ?_) rfl (by kernel_rfl) (by kernel_rfl) (by kernel_rfl) (by kernel_rfl) (fun _ _ _ h => h) (Or.inl ⟨by rfl, ?_⟩) ?_
            rotate_left
            · (intro w hE; have c0 := cellb c0 hE; have c1 := cellb c1 hE; (try dsimp only); go_simp); (try with_reducible rfl)
            try simp only [Act.put, List.setIfInBounds_toArray, List.set_cons_zero, List.set_cons_succ]
            refine wpAnyE_call (i := 4) (oi := { dst := some 29, op := Op.call { callee := Callee.value (Operand.func 32), args := #[Operand.tmp 28], argTypes := #[3] }, type := 3, pos := "ref.go:406", after := #[{ on := 3, ground := Ground.data }], guard := none }) (fun w hE => ofPure (TO.out w)) rfl (by kernel_rfl) (by kernel_rfl) (by kernel_rfl) (by kernel_rfl) (fun _ _ _ h => h) (by rfl) (fun w hE => by (try dsimp only); go_simp) ?_
            try simp only [Act.put, List.setIfInBounds_toArray, List.set_cons_zero, List.set_cons_succ]
            refine wpAnyE_take (i := 7) (oi := { dst := some 32, op := Op.move (Operand.tmp 31), type := 4, pos := "ref.go:406", after := #[{ on := 6, ground := Ground.data }, { on := 4, ground := Ground.chain }], guard := none }) (v := ?_) rfl (by kernel_rfl) (by kernel_rfl) (by kernel_rfl) (by kernel_rfl) (fun _ _ _ h => h) (Or.inl ⟨by rfl, ?_⟩) ?_
            rotate_left
            · (intro w hE; have c0 := cellb c0 hE; have c1 := cellb c1 hE; (try dsimp only); go_simp); (try with_reducible rfl)
            try simp only [Act.put, List.setIfInBounds_toArray, List.set_cons_zero, List.set_cons_succ]
            refine wpAnyE_take (i := 8) (oi := { dst := some 33, op := Op.move (Operand.tmp 0), type := 27, pos := "ref.go:406", after := #[{ on := 7, ground := Ground.guard }], guard := some (7, true) }) (v := ?_) rfl (by kernel_rfl) (by kernel_rfl) (by kernel_rfl) (by kernel_rfl) (fun _ _ _ h => h) (Or.inl ⟨by rfl, ?_⟩) ?_
            rotate_left
            · (intro w hE; have c0 := cellb c0 hE; have c1 := cellb c1 hE; (try dsimp only); go_simp); (try with_reducible rfl)
            try simp only [Act.put, List.setIfInBounds_toArray, List.set_cons_zero, List.set_cons_succ]
            refine wpAnyE_take (i := 9) (oi := { dst := some 34, op := Op.move (Operand.tmp 4), type := 3, pos := "ref.go:406", after := #[{ on := 7, ground := Ground.guard }], guard := some (7, true) }) (v := ?_) rfl (by kernel_rfl) (by kernel_rfl) (by kernel_rfl) (by kernel_rfl) (fun _ _ _ h => h) (Or.inl ⟨by rfl, ?_⟩) ?_
            rotate_left
            · (intro w hE; have c0 := cellb c0 hE; have c1 := cellb c1 hE; (try dsimp only); go_simp); (try with_reducible rfl)
            try simp only [Act.put, List.setIfInBounds_toArray, List.set_cons_zero, List.set_cons_succ]
            refine wpAnyE_take (i := 10) (oi := { dst := some 35, op := Op.binOp BinOp.sub 3 (Operand.tmp 34) (Operand.const (Value.int IntKind.i64 1)) 3, type := 3, pos := "ref.go:406", after := #[{ on := 9, ground := Ground.data }, { on := 7, ground := Ground.guard }], guard := some (7, true) }) (v := ?_) rfl (by kernel_rfl) (by kernel_rfl) (by kernel_rfl) (by kernel_rfl) (fun _ _ _ h => h) (Or.inl ⟨by rfl, ?_⟩) ?_
            rotate_left
            · (intro w hE; have c0 := cellb c0 hE; have c1 := cellb c1 hE; (try dsimp only); go_simp); (try with_reducible rfl)
            try simp only [Act.put, List.setIfInBounds_toArray, List.set_cons_zero, List.set_cons_succ]
            refine wpAnyE_take (i := 11) (oi := { dst := some 36, op := Op.call { callee := Callee.builtin Builtin.max, args := #[Operand.const (Value.int IntKind.i64 0), Operand.tmp 35], argTypes := #[3, 3] }, type := 3, pos := "ref.go:406", after := #[{ on := 10, ground := Ground.data }, { on := 7, ground := Ground.guard }], guard := some (7, true) }) (v := ?_) rfl (by kernel_rfl) (by kernel_rfl) (by kernel_rfl) (by kernel_rfl) (fun _ _ _ h => h) (Or.inl ⟨by rfl, ?_⟩) ?_
            rotate_left
            · (intro w hE; have c0 := cellb c0 hE; have c1 := cellb c1 hE; (try dsimp only); go_simp); (try with_reducible rfl)
            try simp only [Act.put, List.setIfInBounds_toArray, List.set_cons_zero, List.set_cons_succ]
            refine wpAnyE_take (i := 12) (oi := { dst := some 37, op := Op.indexAddr 27 (Operand.tmp 33) (Operand.tmp 36), type := 0, pos := "ref.go:406", after := #[{ on := 8, ground := Ground.data }, { on := 11, ground := Ground.data }, { on := 7, ground := Ground.guard }], guard := some (7, true) }) (v := ?_) rfl (by kernel_rfl) (by kernel_rfl) (by kernel_rfl) (by kernel_rfl) (fun _ _ _ h => h) (Or.inl ⟨by rfl, ?_⟩) ?_
            rotate_left
            · (intro w hE; have c0 := cellb c0 hE; have c1 := cellb c1 hE; (try dsimp only); go_simp); (try with_reducible rfl)
            try simp only [Act.put, List.setIfInBounds_toArray, List.set_cons_zero, List.set_cons_succ]
            refine wpAnyE_take (i := 13) (oi := { dst := some 38, op := Op.load 3 (Operand.tmp 37), type := 3, pos := "ref.go:406", after := #[{ on := 12, ground := Ground.data }, { on := 7, ground := Ground.guard }], guard := some (7, true) }) (v := ?_) rfl (by kernel_rfl) (by kernel_rfl) (by kernel_rfl) (by kernel_rfl) (fun _ _ _ h => h) (Or.inl ⟨by rfl, ?_⟩) ?_
            rotate_left
            · (intro w hE; have c0 := cellb c0 hE; have c1 := cellb c1 hE; (try dsimp only); go_simp); (try with_reducible rfl)
            try simp only [Act.put, List.setIfInBounds_toArray, List.set_cons_zero, List.set_cons_succ]
            refine wpAnyE_take (i := 14) (oi := { dst := some 39, op := Op.move (Operand.tmp 0), type := 27, pos := "ref.go:406", after := #[{ on := 7, ground := Ground.guard }], guard := some (7, true) }) (v := ?_) rfl (by kernel_rfl) (by kernel_rfl) (by kernel_rfl) (by kernel_rfl) (fun _ _ _ h => h) (Or.inl ⟨by rfl, ?_⟩) ?_
            rotate_left
            · (intro w hE; have c0 := cellb c0 hE; have c1 := cellb c1 hE; (try dsimp only); go_simp); (try with_reducible rfl)
            try simp only [Act.put, List.setIfInBounds_toArray, List.set_cons_zero, List.set_cons_succ]
            refine wpAnyE_take (i := 15) (oi := { dst := some 40, op := Op.move (Operand.tmp 4), type := 3, pos := "ref.go:406", after := #[{ on := 7, ground := Ground.guard }], guard := some (7, true) }) (v := ?_) rfl (by kernel_rfl) (by kernel_rfl) (by kernel_rfl) (by kernel_rfl) (fun _ _ _ h => h) (Or.inl ⟨by rfl, ?_⟩) ?_
            rotate_left
            · (intro w hE; have c0 := cellb c0 hE; have c1 := cellb c1 hE; (try dsimp only); go_simp); (try with_reducible rfl)
            try simp only [Act.put, List.setIfInBounds_toArray, List.set_cons_zero, List.set_cons_succ]
            refine wpAnyE_take (i := 16) (oi := { dst := some 41, op := Op.indexAddr 27 (Operand.tmp 39) (Operand.tmp 40), type := 0, pos := "ref.go:406", after := #[{ on := 14, ground := Ground.data }, { on := 15, ground := Ground.data }, { on := 7, ground := Ground.guard }], guard := some (7, true) }) (v := ?_) rfl (by kernel_rfl) (by kernel_rfl) (by kernel_rfl) (by kernel_rfl) (fun _ _ _ h => h) (Or.inl ⟨by rfl, ?_⟩) ?_
            rotate_left
            · (intro w hE; have c0 := cellb c0 hE; have c1 := cellb c1 hE; (try dsimp only); go_simp); (try with_reducible rfl)
            try simp only [Act.put, List.setIfInBounds_toArray, List.set_cons_zero, List.set_cons_succ]
            refine wpAnyE_take (i := 17) (oi := { dst := some 42, op := Op.load 3 (Operand.tmp 41), type := 3, pos := "ref.go:406", after := #[{ on := 16, ground := Ground.data }, { on := 7, ground := Ground.guard }], guard := some (7, true) }) (v := ?_) rfl (by kernel_rfl) (by kernel_rfl) (by kernel_rfl) (by kernel_rfl) (fun _ _ _ h => h) (Or.inl ⟨by rfl, ?_⟩) ?_
            rotate_left
            · (intro w hE; have c0 := cellb c0 hE; have c1 := cellb c1 hE; (try dsimp only); go_simp); (try with_reducible rfl)
            try simp only [Act.put, List.setIfInBounds_toArray, List.set_cons_zero, List.set_cons_succ]
            refine wpAnyE_take (i := 18) (oi := { dst := some 43, op := Op.binOp BinOp.geq 3 (Operand.tmp 38) (Operand.tmp 42) 3, type := 4, pos := "ref.go:406", after := #[{ on := 13, ground := Ground.data }, { on := 17, ground := Ground.data }, { on := 7, ground := Ground.guard }], guard := some (7, true) }) (v := ?_) rfl (by kernel_rfl) (by kernel_rfl) (by kernel_rfl) (by kernel_rfl) (fun _ _ _ h => h) (Or.inl ⟨by rfl, ?_⟩) ?_
            rotate_left
            · (intro w hE; have c0 := cellb c0 hE; have c1 := cellb c1 hE; (try dsimp only); go_simp); (try with_reducible rfl)
            try simp only [Act.put, List.setIfInBounds_toArray, List.set_cons_zero, List.set_cons_succ]
            refine wpAnyE_take (i := 19) (oi := { dst := some 44, op := Op.pick (Operand.tmp 32) (Operand.tmp 43) (Operand.const (Value.bool false)), type := 4, pos := "ref.go:406", after := #[{ on := 7, ground := Ground.data }, { on := 18, ground := Ground.data }], guard := none }) (v := ?_) rfl (by kernel_rfl) (by kernel_rfl) (by kernel_rfl) (by kernel_rfl) (fun _ _ _ h => h) (Or.inl ⟨by rfl, ?_⟩) ?_
            rotate_left
            · (intro w hE; have c0 := cellb c0 hE; have c1 := cellb c1 hE; (try dsimp only); go_simp); (try with_reducible rfl)
            try simp only [Act.put, List.setIfInBounds_toArray, List.set_cons_zero, List.set_cons_succ]
            refine wpAnyE_call (i := 20) (oi := { dst := some 45, op := Op.call { callee := Callee.value (Operand.func 33), args := #[Operand.tmp 44, Operand.const (Value.int IntKind.i64 11)], argTypes := #[4, 3] }, type := 3, pos := "ref.go:406", after := #[{ on := 19, ground := Ground.data }, { on := 7, ground := Ground.chain }], guard := none }) (fun w hE => ofPure (T2.out w)) rfl (by kernel_rfl) (by kernel_rfl) (by kernel_rfl) (by kernel_rfl) (fun _ _ _ h => h) (by rfl) (fun w hE => by (try dsimp only); go_simp) ?_
            try simp only [Act.put, List.setIfInBounds_toArray, List.set_cons_zero, List.set_cons_succ]
            refine wpAnyE_one (i := 21) (o := { dst := some 46, op := Op.buildSlice 27 2 #[(0, Operand.tmp 29), (1, Operand.tmp 45)], type := 27, pos := "ref.go:406", after := #[{ on := 4, ground := Ground.data }, { on := 20, ground := Ground.data }], guard := none }) (by kernel_rfl) rfl (fun wy1 hE K hK => ?_)
            have c0 := cellb c0 hE
            have c1 := cellb c1 hE
            have hbz1 := bthen hbz hE
            clear hE
            go_simp
            obtain ⟨wx1, hwz⟩ : ∃ v, v = wy1.alloc (Obj.cells #[.int .i64 s1, .int .i64 s2] 3) := ⟨_, rfl⟩
            rw [← hwz]
            have hl : Below wy1.heap.size wy1 wx1 := by rw [hwz]; exact below_new _ _
            have hcz1 := bthen hbz1 hl
            have iN : BlkI wx1 wy1.heap.size 3 [s1, s2] := by rw [hwz]; exact Blk.new _ _ _
            generalize wy1.heap.size = G at iN ⊢
            have c0 := cellb c0 hl
            have c1 := cellb c1 hl
            clear hwz
            refine hK _ _ (fun _ => hl) ?_
            clear hK K hl
            try simp only [Act.put, List.setIfInBounds_toArray, List.set_cons_zero, List.set_cons_succ]
            refine wpAnyE_call (i := 22) (oi := { dst := some 47, op := Op.call { callee := Callee.value (Operand.func 76), args := #[Operand.tmp 46], argTypes := #[27] }, type := 3, pos := "ref.go:406", after := #[{ on := 21, ground := Ground.data }, { on := 20, ground := Ground.chain }], guard := none }) (fun w hE => ofPure (TF.out _ w ((BlkI.ints (l := [s1, s2]) iN rfl).carry hE))) rfl (by kernel_rfl) (by kernel_rfl) (by kernel_rfl) (by kernel_rfl) (fun _ _ _ h => h) (by rfl) (fun w hE => by (try dsimp only); go_simp) ?_
            try simp only [Act.put, List.setIfInBounds_toArray, List.set_cons_zero, List.set_cons_succ]
            refine wpAnyE_take (i := 23) (oi := { dst := some 5, op := Op.assign (Operand.tmp 47), type := 3, pos := "ref.go:406", after := #[{ on := 22, ground := Ground.data }, { on := 22, ground := Ground.chain }, { on := 0, ground := Ground.phase }, { on := 1, ground := Ground.phase }, { on := 2, ground := Ground.phase }, { on := 3, ground := Ground.phase }, { on := 4, ground := Ground.phase }, { on := 5, ground := Ground.phase }, { on := 6, ground := Ground.phase }, { on := 7, ground := Ground.phase }, { on := 8, ground := Ground.phase }, { on := 9, ground := Ground.phase }, { on := 10, ground := Ground.phase }, { on := 11, ground := Ground.phase }, { on := 12, ground := Ground.phase }, { on := 13, ground := Ground.phase }, { on := 14, ground := Ground.phase }, { on := 15, ground := Ground.phase }, { on := 16, ground := Ground.phase }, { on := 17, ground := Ground.phase }, { on := 18, ground := Ground.phase }, { on := 19, ground := Ground.phase }, { on := 20, ground := Ground.phase }, { on := 21, ground := Ground.phase }, { on := 22, ground := Ground.phase }], guard := none }) (v := ?_) rfl (by kernel_rfl) (by kernel_rfl) (by kernel_rfl) (by kernel_rfl) (fun _ _ _ h => h) (Or.inl ⟨by rfl, ?_⟩) ?_
            rotate_left
            · (intro w hE; have c0 := cellb c0 hE; have c1 := cellb c1 hE; (try dsimp only); go_simp); (try with_reducible rfl)
            try simp only [Act.put, List.setIfInBounds_toArray, List.set_cons_zero, List.set_cons_succ]
            refine wpAnyE_done (by kernel_rfl) (fun wy2 hE => ?_) _
            have hbz2 := bthen hcz1 hE
            have c0 := cellb c0 hE
            have c1 := cellb c1 hE
            have iN := iN.carry hE
            clear hE
            have hB := hbz2
            go_wp2_with fail
            go_meet
            exact ⟨rfl, hB⟩
        case rest =>
          obtain ⟨rfl, hb⟩ := hcut
          replace hB := bthen hB hb
          clear hb c0
          by_cases hs : sN = 0
          · subst hs
            have hd := HD.out
            rw [orE, if_pos rfl] at hd
            have HD2 := Lib.hid hd
            clear hd
            go_wp2
            go_roundw
            case rel => exact ⟨k + 1, by omega, by go_num, by rw [HD2.out, HEN.out, HL1.out], hB⟩
            case measure => simp [intOf]; omega
          · have z : (sN != 0) = true := by rw [bne_iff_ne]; exact hs
            have hd := HD.out
            rw [orE, if_neg hs] at hd
            have HD2 := Lib.hid hd
            clear hd
            go_wp2
            go_ret
            exact ⟨ret_int HD2.out.symm, hB⟩
      · obtain rfl : k = n := by omega
        have hE9 : E = 0 := by
          rw [hEk, List.drop_of_length_le (by rw [← HN.out]; exact Nat.le_refl _)]; rfl
        have HEK := Lib.hid hE9
        clear hEk hE9
        go_wp2
        go_ret
        exact ⟨ret_int (by rw [HEK.out]), hB⟩
  · have z : (eN != 0) = true := by rw [bne_iff_ne]; exact he
    have HNE := Lib.hid he
    go_wp2_with fail
    go_ret
    exact ⟨ret_int (by rw [HE.out, orE, if_neg HNE.out]), hB⟩
end

section
set_option linter.unusedSimpArgs false
set_option linter.unusedVariables false
open Go.RowKit

theorem avo_neg (g : Int → Bool) (n : Nat) (hn : n ≤ 8) (h : ∀ m : Nat, m < n → g (-(m : Int)) = false ∧ g (m : Int) = false) (hx : g (-(n : Int)) = true) : tapsS.find? g = some (-(n : Int)) := by
  obtain rfl | rfl | rfl | rfl | rfl | rfl | rfl | rfl | rfl : n = 0 ∨ n = 1 ∨ n = 2 ∨ n = 3 ∨ n = 4 ∨ n = 5 ∨ n = 6 ∨ n = 7 ∨ n = 8 := by omega
  · refine find_some (k := 0) rfl (fun y hy => ?_) hx
    simp at hy
  · refine find_some (k := 1) rfl (fun y hy => ?_) hx
    obtain ⟨p0, q0⟩ := h 0 (by omega)
    have hy2 : y = 0 := by simpa [tapsS] using hy
    rcases hy2 with rfl
    · exact q0
  · refine find_some (k := 3) rfl (fun y hy => ?_) hx
    obtain ⟨p0, q0⟩ := h 0 (by omega)
    obtain ⟨p1, q1⟩ := h 1 (by omega)
    have hy2 : y = 0 ∨ y = (-1) ∨ y = 1 := by simpa [tapsS] using hy
    rcases hy2 with rfl | rfl | rfl
    · exact q0
    · exact p1
    · exact q1
  · refine find_some (k := 5) rfl (fun y hy => ?_) hx
    obtain ⟨p0, q0⟩ := h 0 (by omega)
    obtain ⟨p1, q1⟩ := h 1 (by omega)
    obtain ⟨p2, q2⟩ := h 2 (by omega)
    have hy2 : y = 0 ∨ y = (-1) ∨ y = 1 ∨ y = (-2) ∨ y = 2 := by simpa [tapsS] using hy
    rcases hy2 with rfl | rfl | rfl | rfl | rfl
    · exact q0
    · exact p1
    · exact q1
    · exact p2
    · exact q2
  · refine find_some (k := 7) rfl (fun y hy => ?_) hx
    obtain ⟨p0, q0⟩ := h 0 (by omega)
    obtain ⟨p1, q1⟩ := h 1 (by omega)
    obtain ⟨p2, q2⟩ := h 2 (by omega)
    obtain ⟨p3, q3⟩ := h 3 (by omega)
    have hy2 : y = 0 ∨ y = (-1) ∨ y = 1 ∨ y = (-2) ∨ y = 2 ∨ y = (-3) ∨ y = 3 := by simpa [tapsS] using hy
    rcases hy2 with rfl | rfl | rfl | rfl | rfl | rfl | rfl
    · exact q0
    · exact p1
    · exact q1
    · exact p2
    · exact q2
    · exact p3
    · exact q3
  · refine find_some (k := 9) rfl (fun y hy => ?_) hx
    obtain ⟨p0, q0⟩ := h 0 (by omega)
    obtain ⟨p1, q1⟩ := h 1 (by omega)
    obtain ⟨p2, q2⟩ := h 2 (by omega)
    obtain ⟨p3, q3⟩ := h 3 (by omega)
    obtain ⟨p4, q4⟩ := h 4 (by omega)
    have hy2 : y = 0 ∨ y = (-1) ∨ y = 1 ∨ y = (-2) ∨ y = 2 ∨ y = (-3) ∨ y = 3 ∨ y = (-4) ∨ y = 4 := by simpa [tapsS] using hy
    rcases hy2 with rfl | rfl | rfl | rfl | rfl | rfl | rfl | rfl | rfl
    · exact q0
    · exact p1
    · exact q1
    · exact p2
    · exact q2
    · exact p3
    · exact q3
    · exact p4
    · exact q4
  · refine find_some (k := 11) rfl (fun y hy => ?_) hx
    obtain ⟨p0, q0⟩ := h 0 (by omega)
    obtain ⟨p1, q1⟩ := h 1 (by omega)
    obtain ⟨p2, q2⟩ := h 2 (by omega)
    obtain ⟨p3, q3⟩ := h 3 (by omega)
    obtain ⟨p4, q4⟩ := h 4 (by omega)
    obtain ⟨p5, q5⟩ := h 5 (by omega)
    have hy2 : y = 0 ∨ y = (-1) ∨ y = 1 ∨ y = (-2) ∨ y = 2 ∨ y = (-3) ∨ y = 3 ∨ y = (-4) ∨ y = 4 ∨ y = (-5) ∨ y = 5 := by simpa [tapsS] using hy
    rcases hy2 with rfl | rfl | rfl | rfl | rfl | rfl | rfl | rfl | rfl | rfl | rfl
    · exact q0
    · exact p1
    · exact q1
    · exact p2
    · exact q2
    · exact p3
    · exact q3
    · exact p4
    · exact q4
    · exact p5
    · exact q5
  · refine find_some (k := 13) rfl (fun y hy => ?_) hx
    obtain ⟨p0, q0⟩ := h 0 (by omega)
    obtain ⟨p1, q1⟩ := h 1 (by omega)
    obtain ⟨p2, q2⟩ := h 2 (by omega)
    obtain ⟨p3, q3⟩ := h 3 (by omega)
    obtain ⟨p4, q4⟩ := h 4 (by omega)
    obtain ⟨p5, q5⟩ := h 5 (by omega)
    obtain ⟨p6, q6⟩ := h 6 (by omega)
    have hy2 : y = 0 ∨ y = (-1) ∨ y = 1 ∨ y = (-2) ∨ y = 2 ∨ y = (-3) ∨ y = 3 ∨ y = (-4) ∨ y = 4 ∨ y = (-5) ∨ y = 5 ∨ y = (-6) ∨ y = 6 := by simpa [tapsS] using hy
    rcases hy2 with rfl | rfl | rfl | rfl | rfl | rfl | rfl | rfl | rfl | rfl | rfl | rfl | rfl
    · exact q0
    · exact p1
    · exact q1
    · exact p2
    · exact q2
    · exact p3
    · exact q3
    · exact p4
    · exact q4
    · exact p5
    · exact q5
    · exact p6
    · exact q6
  · refine find_some (k := 15) rfl (fun y hy => ?_) hx
    obtain ⟨p0, q0⟩ := h 0 (by omega)
    obtain ⟨p1, q1⟩ := h 1 (by omega)
    obtain ⟨p2, q2⟩ := h 2 (by omega)
    obtain ⟨p3, q3⟩ := h 3 (by omega)
    obtain ⟨p4, q4⟩ := h 4 (by omega)
    obtain ⟨p5, q5⟩ := h 5 (by omega)
    obtain ⟨p6, q6⟩ := h 6 (by omega)
    obtain ⟨p7, q7⟩ := h 7 (by omega)
    have hy2 : y = 0 ∨ y = (-1) ∨ y = 1 ∨ y = (-2) ∨ y = 2 ∨ y = (-3) ∨ y = 3 ∨ y = (-4) ∨ y = 4 ∨ y = (-5) ∨ y = 5 ∨ y = (-6) ∨ y = 6 ∨ y = (-7) ∨ y = 7 := by simpa [tapsS] using hy
    rcases hy2 with rfl | rfl | rfl | rfl | rfl | rfl | rfl | rfl | rfl | rfl | rfl | rfl | rfl | rfl | rfl
    · exact q0
    · exact p1
    · exact q1
    · exact p2
    · exact q2
    · exact p3
    · exact q3
    · exact p4
    · exact q4
    · exact p5
    · exact q5
    · exact p6
    · exact q6
    · exact p7
    · exact q7
theorem avo_pos (g : Int → Bool) (n : Nat) (hn : n ≤ 8) (h : ∀ m : Nat, m < n → g (-(m : Int)) = false ∧ g (m : Int) = false) (hq : g (-(n : Int)) = false) (hx : g (n : Int) = true) : tapsS.find? g = some (n : Int) := by
  obtain rfl | rfl | rfl | rfl | rfl | rfl | rfl | rfl | rfl : n = 0 ∨ n = 1 ∨ n = 2 ∨ n = 3 ∨ n = 4 ∨ n = 5 ∨ n = 6 ∨ n = 7 ∨ n = 8 := by omega
  · refine find_some (k := 0) rfl (fun y hy => ?_) hx
    simp at hy
  · refine find_some (k := 2) rfl (fun y hy => ?_) hx
    obtain ⟨p0, q0⟩ := h 0 (by omega)
    have hy2 : y = 0 ∨ y = (-1) := by simpa [tapsS] using hy
    rcases hy2 with rfl | rfl
    · exact q0
    · exact hq
  · refine find_some (k := 4) rfl (fun y hy => ?_) hx
    obtain ⟨p0, q0⟩ := h 0 (by omega)
    obtain ⟨p1, q1⟩ := h 1 (by omega)
    have hy2 : y = 0 ∨ y = (-1) ∨ y = 1 ∨ y = (-2) := by simpa [tapsS] using hy
    rcases hy2 with rfl | rfl | rfl | rfl
    · exact q0
    · exact p1
    · exact q1
    · exact hq
  · refine find_some (k := 6) rfl (fun y hy => ?_) hx
    obtain ⟨p0, q0⟩ := h 0 (by omega)
    obtain ⟨p1, q1⟩ := h 1 (by omega)
    obtain ⟨p2, q2⟩ := h 2 (by omega)
    have hy2 : y = 0 ∨ y = (-1) ∨ y = 1 ∨ y = (-2) ∨ y = 2 ∨ y = (-3) := by simpa [tapsS] using hy
    rcases hy2 with rfl | rfl | rfl | rfl | rfl | rfl
    · exact q0
    · exact p1
    · exact q1
    · exact p2
    · exact q2
    · exact hq
  · refine find_some (k := 8) rfl (fun y hy => ?_) hx
    obtain ⟨p0, q0⟩ := h 0 (by omega)
    obtain ⟨p1, q1⟩ := h 1 (by omega)
    obtain ⟨p2, q2⟩ := h 2 (by omega)
    obtain ⟨p3, q3⟩ := h 3 (by omega)
    have hy2 : y = 0 ∨ y = (-1) ∨ y = 1 ∨ y = (-2) ∨ y = 2 ∨ y = (-3) ∨ y = 3 ∨ y = (-4) := by simpa [tapsS] using hy
    rcases hy2 with rfl | rfl | rfl | rfl | rfl | rfl | rfl | rfl
    · exact q0
    · exact p1
    · exact q1
    · exact p2
    · exact q2
    · exact p3
    · exact q3
    · exact hq
  · refine find_some (k := 10) rfl (fun y hy => ?_) hx
    obtain ⟨p0, q0⟩ := h 0 (by omega)
    obtain ⟨p1, q1⟩ := h 1 (by omega)
    obtain ⟨p2, q2⟩ := h 2 (by omega)
    obtain ⟨p3, q3⟩ := h 3 (by omega)
    obtain ⟨p4, q4⟩ := h 4 (by omega)
    have hy2 : y = 0 ∨ y = (-1) ∨ y = 1 ∨ y = (-2) ∨ y = 2 ∨ y = (-3) ∨ y = 3 ∨ y = (-4) ∨ y = 4 ∨ y = (-5) := by simpa [tapsS] using hy
    rcases hy2 with rfl | rfl | rfl | rfl | rfl | rfl | rfl | rfl | rfl | rfl
    · exact q0
    · exact p1
    · exact q1
    · exact p2
    · exact q2
    · exact p3
    · exact q3
    · exact p4
    · exact q4
    · exact hq
  · refine find_some (k := 12) rfl (fun y hy => ?_) hx
    obtain ⟨p0, q0⟩ := h 0 (by omega)
    obtain ⟨p1, q1⟩ := h 1 (by omega)
    obtain ⟨p2, q2⟩ := h 2 (by omega)
    obtain ⟨p3, q3⟩ := h 3 (by omega)
    obtain ⟨p4, q4⟩ := h 4 (by omega)
    obtain ⟨p5, q5⟩ := h 5 (by omega)
    have hy2 : y = 0 ∨ y = (-1) ∨ y = 1 ∨ y = (-2) ∨ y = 2 ∨ y = (-3) ∨ y = 3 ∨ y = (-4) ∨ y = 4 ∨ y = (-5) ∨ y = 5 ∨ y = (-6) := by simpa [tapsS] using hy
    rcases hy2 with rfl | rfl | rfl | rfl | rfl | rfl | rfl | rfl | rfl | rfl | rfl | rfl
    · exact q0
    · exact p1
    · exact q1
    · exact p2
    · exact q2
    · exact p3
    · exact q3
    · exact p4
    · exact q4
    · exact p5
    · exact q5
    · exact hq
  · refine find_some (k := 14) rfl (fun y hy => ?_) hx
    obtain ⟨p0, q0⟩ := h 0 (by omega)
    obtain ⟨p1, q1⟩ := h 1 (by omega)
    obtain ⟨p2, q2⟩ := h 2 (by omega)
    obtain ⟨p3, q3⟩ := h 3 (by omega)
    obtain ⟨p4, q4⟩ := h 4 (by omega)
    obtain ⟨p5, q5⟩ := h 5 (by omega)
    obtain ⟨p6, q6⟩ := h 6 (by omega)
    have hy2 : y = 0 ∨ y = (-1) ∨ y = 1 ∨ y = (-2) ∨ y = 2 ∨ y = (-3) ∨ y = 3 ∨ y = (-4) ∨ y = 4 ∨ y = (-5) ∨ y = 5 ∨ y = (-6) ∨ y = 6 ∨ y = (-7) := by simpa [tapsS] using hy
    rcases hy2 with rfl | rfl | rfl | rfl | rfl | rfl | rfl | rfl | rfl | rfl | rfl | rfl | rfl | rfl
    · exact q0
    · exact p1
    · exact q1
    · exact p2
    · exact q2
    · exact p3
    · exact q3
    · exact p4
    · exact q4
    · exact p5
    · exact q5
    · exact p6
    · exact q6
    · exact hq
  · refine find_some (k := 16) rfl (fun y hy => ?_) hx
    obtain ⟨p0, q0⟩ := h 0 (by omega)
    obtain ⟨p1, q1⟩ := h 1 (by omega)
    obtain ⟨p2, q2⟩ := h 2 (by omega)
    obtain ⟨p3, q3⟩ := h 3 (by omega)
    obtain ⟨p4, q4⟩ := h 4 (by omega)
    obtain ⟨p5, q5⟩ := h 5 (by omega)
    obtain ⟨p6, q6⟩ := h 6 (by omega)
    obtain ⟨p7, q7⟩ := h 7 (by omega)
    have hy2 : y = 0 ∨ y = (-1) ∨ y = 1 ∨ y = (-2) ∨ y = 2 ∨ y = (-3) ∨ y = 3 ∨ y = (-4) ∨ y = 4 ∨ y = (-5) ∨ y = 5 ∨ y = (-6) ∨ y = 6 ∨ y = (-7) ∨ y = 7 ∨ y = (-8) := by simpa [tapsS] using hy
    rcases hy2 with rfl | rfl | rfl | rfl | rfl | rfl | rfl | rfl | rfl | rfl | rfl | rfl | rfl | rfl | rfl | rfl
    · exact q0
    · exact p1
    · exact q1
    · exact p2
    · exact q2
    · exact p3
    · exact q3
    · exact p4
    · exact q4
    · exact p5
    · exact q5
    · exact p6
    · exact q6
    · exact p7
    · exact q7
    · exact hq
theorem avo_none (g : Int → Bool) (h : ∀ m : Nat, m < 9 → g (-(m : Int)) = false ∧ g (m : Int) = false) : tapsS.find? g = none := by
  refine List.find?_eq_none.2 fun y hy => ?_
  obtain ⟨p0, q0⟩ := h 0 (by omega)
  obtain ⟨p1, q1⟩ := h 1 (by omega)
  obtain ⟨p2, q2⟩ := h 2 (by omega)
  obtain ⟨p3, q3⟩ := h 3 (by omega)
  obtain ⟨p4, q4⟩ := h 4 (by omega)
  obtain ⟨p5, q5⟩ := h 5 (by omega)
  obtain ⟨p6, q6⟩ := h 6 (by omega)
  obtain ⟨p7, q7⟩ := h 7 (by omega)
  obtain ⟨p8, q8⟩ := h 8 (by omega)
  have hy2 : y = 0 ∨ y = (-1) ∨ y = 1 ∨ y = (-2) ∨ y = 2 ∨ y = (-3) ∨ y = 3 ∨ y = (-4) ∨ y = 4 ∨ y = (-5) ∨ y = 5 ∨ y = (-6) ∨ y = 6 ∨ y = (-7) ∨ y = 7 ∨ y = (-8) ∨ y = 8 := by simpa [tapsS] using hy
  rcases hy2 with rfl | rfl | rfl | rfl | rfl | rfl | rfl | rfl | rfl | rfl | rfl | rfl | rfl | rfl | rfl | rfl | rfl
  · rw [show g 0 = false from q0]; simp
  · rw [show g (-1) = false from p1]; simp
  · rw [show g 1 = false from q1]; simp
  · rw [show g (-2) = false from p2]; simp
  · rw [show g 2 = false from q2]; simp
  · rw [show g (-3) = false from p3]; simp
  · rw [show g 3 = false from q3]; simp
  · rw [show g (-4) = false from p4]; simp
  · rw [show g 4 = false from q4]; simp
  · rw [show g (-5) = false from p5]; simp
  · rw [show g 5 = false from q5]; simp
  · rw [show g (-6) = false from p6]; simp
  · rw [show g 6 = false from q6]; simp
  · rw [show g (-7) = false from p7]; simp
  · rw [show g 7 = false from q7]; simp
  · rw [show g (-8) = false from p8]; simp
  · rw [show g 8 = false from q8]; simp

set_option maxRecDepth 100000 in
set_option maxHeartbeats 4000000 in
theorem AvoidsR_any (v u z : Value) (ls : List (Int × Int)) (b : Nat) (t : Int) (l : List (Int × Int)) (os : List Int) (w : World) (hv : Pairs w v ls) (hl : ls.length ≤ 1000000) (hb : b < ls.length) (hu : Pairs w u l) (hlu : l.length ≤ 1000000) (h0 : 0 < l.length) (hz : Ints w z os) (hlz : os.length ≤ 1000000) (ho : ∀ x ∈ os, 1 ≤ x ∧ x ≤ 12) :
    Calls Tryz.prog 100 #[.agg #[v], .int .i64 b, .int .i64 t, u, z] w fun e w' => e = .returned (.bool (okT ls b l os t)) ∧ Below w.heap.size w w' := by
  obtain ⟨n, hn⟩ : ∃ n, n = os.length := ⟨_, rfl⟩
  have TT := Lib.hid (fun W hP => TappedR_any v ls b t W hP hl hb)
  obtain ⟨R, hR⟩ : ∃ R, R = okT ls b l os t := ⟨_, rfl⟩
  rw [← hR]
  rw [okT] at hR
  have hml : (tapL ls b t).length ≤ 1000000 := by rw [tapL, List.length_set]; exact hl
  generalize tapL ls b t = X at TT hR hml
  have TM := Lib.hid (fun (hf : fltE X = 0) (x : Value) h (hh : 0 ≤ h ∧ h ≤ 13) W hP hQ => MeetsR_any x u X l h W hP hml hQ hlu hf hh h0)
  generalize fltE X = E at TT TM hR
  obtain ⟨g, hg⟩ : ∃ g, g = meetB X l := ⟨_, rfl⟩
  rw [← hg] at TM hR
  have HO := Lib.hid ho
  have HR := Lib.hid hR
  have HV := Lib.hid hv
  have HU := Lib.hid hu
  have HZ := Lib.hid hz
  have HN := Lib.hid hn
  obtain ⟨a, cp, rfl, _, _⟩ := id hv
  obtain ⟨a2, cp2, rfl, _, _⟩ := id hu
  obtain ⟨a3, cp3, rfl, _, hcs0⟩ := id hz
  rw [← hn] at hlz ⊢
  have hcs : ∀ k : Nat, k < n → ∃ b off h, a3 = some ⟨b, off, none⟩ ∧ os[k]? = some h ∧ w.cell? ⟨b, off + k, none⟩ = some (.int .i64 h) := fun k hk => by
    obtain ⟨b, off, rfl, hc⟩ := hcs0 (by omega)
    have := hc k (by omega)
    rw [List.getElem?_eq_getElem (by omega)] at this
    exact ⟨b, off, _, rfl, List.getElem?_eq_getElem (by omega), this⟩
  have HC := Lib.hid hcs
  clear hv hu hz hR hcs0 hcs hg ho hn
  go_enter Tryz.func100, Tryz.ntmps100
  go_upto_region 1 with fail
  obtain ⟨W1, hW1⟩ : ∃ v, v = World.alloc w (Obj.cells #[.slice a ls.length cp] 47) := ⟨_, rfl⟩
  have kW1 : Below w.heap.size w W1 := by rw [hW1]; exact below_new _ _
  have iW1 : Blk W1 (w.heap.size) 47 [.slice a ls.length cp] := by rw [hW1]; exact Blk.new _ _ _
  have sW1 : W1.heap.size = w.heap.size + 1 := by rw [hW1]; simp
  rw [← hW1]
  clear hW1
  have a0 := iW1.cell (j := 0) (v := .slice a ls.length cp) rfl
  have hB := kW1
  clear iW1 kW1 sW1
  go_wp2_with fail
  refine (TT.out W1 (HV.out.carry hB)).mono ?_
  rintro e W2 ⟨⟨q, rfl, hq⟩, hb2⟩
  replace hB := bthen hB hb2
  clear hb2 a0 TT
  obtain ⟨xa, xc, rfl, _, _⟩ := id hq
  by_cases hE : E = 0
  · subst hE
    have hR : R = !(os.any g) := HR.out
    have HR2 := Lib.hid hR
    have hq' : Pairs W2 (.slice xa X.length xc) X := hq
    clear HR hR hq
    go_upto_region 2 with fail
    rw [show (lsIf 0 X).length = X.length from rfl]
    obtain ⟨W3, hW3⟩ : ∃ v, v = World.alloc W2 (Obj.cells #[.slice xa X.length xc] 47) := ⟨_, rfl⟩
    have kW3 : Below W2.heap.size W2 W3 := by rw [hW3]; exact below_new _ _
    have iW3 : Blk W3 (W2.heap.size) 47 [.slice xa X.length xc] := by rw [hW3]; exact Blk.new _ _ _
    have sW3 : W3.heap.size = W2.heap.size + 1 := by rw [hW3]; simp
    rw [← hW3]
    clear hW3
    have i1 := iW3
    have hP := Lib.hid (hq'.carry kW3)
    replace hB := bthen hB kW3
    obtain ⟨G, hG⟩ : ∃ G, G = W2.heap.size := ⟨_, rfl⟩
    rw [← hG] at i1 ⊢
    clear iW3 kW3 sW3 hG hq'
    have hX := TM.out (by trivial)
    have TM2 := Lib.hid hX
    clear hX TM
    go_wp2_with fail
    go_loopw [13] (fun i wr => ∃ k : Nat, k ≤ n ∧ i = .int .i64 k ∧ (os.take k).any g = false ∧ Blk wr G 47 [.slice xa X.length xc] ∧ Pairs wr (.slice xa X.length xc) X ∧ Below w.heap.size w wr) (fun i _ => n - (intOf i).toNat)
    case atStart => exact ⟨0, by omega, rfl, by simp, i1, hP.out, hB⟩
    case round =>
      clear i1 hB hP
      obtain ⟨k, hk, rfl, hno, i1, hP', hB⟩ := hrel
      have HNO := Lib.hid hno
      clear hno
      by_cases hlt : k < n
      · obtain ⟨b3, off3, h, rfl, hx, c0⟩ := HC.out k hlt
        have hh := HO.out h (List.mem_of_getElem? hx)
        have TM3 := Lib.hid (TM2.out (.slice xa X.length xc) h (by omega))
        have HX := Lib.hid hx
        obtain ⟨s, hs⟩ : ∃ s, s = g h := ⟨_, rfl⟩
        rw [← hs] at TM3
        have HS := Lib.hid hs
        have d1 : (k : Int) < (n : Int) := by omega
        have c0 := cellb c0 hB
        have a1 := i1.cell (j := 0) (v := .slice xa X.length xc) rfl
        have hU' := HU.out.carry hB
        clear hx hs hh
        go_wp2_with fail
        refine wp_region_E 99 (by kernel_rfl) ?_
        obtain ⟨wz, hwz⟩ : ∃ v, v = wr.drew := ⟨_, rfl⟩
        rw [← hwz]
        have hlz : Below wr.heap.size wr wz := by rw [hwz]; exact (Below.refl _ _).drew
        have hbz := bthen hB hlz
        have c0 := cellb c0 hlz
        have a1 := cellb a1 hlz
        have i1 := i1.carry hlz
        have hP' := hP'.carry hlz
        have hU' := hU'.carry hlz
        clear hwz hlz
        refine wpAnyE_take (i := 0) (oi := { dst := some 29, op := Op.load 47 (Operand.tmp 11), type := 47, pos := "ref.go:420", after := #[], guard := none }) (v := ?_) rfl (by kernel_rfl) (by kernel_rfl) (by kernel_rfl) (by kernel_rfl) (fun _ _ _ h => h) (Or.inl ⟨by rfl, ?_⟩) ?_
        rotate_left
        · (intro w hE; have c0 := cellb c0 hE; have a1 := cellb a1 hE; (try dsimp only); go_simp); (try with_reducible rfl)
        try simp only [Act.put, List.setIfInBounds_toArray, List.set_cons_zero, List.set_cons_succ]
        refine wpAnyE_take (i := 1) (oi := { dst := some 30, op := Op.move (Operand.tmp 3), type := 48, pos := "ref.go:420", after := #[], guard := none }) (v := ?_) rfl (by kernel_rfl) (by kernel_rfl) (by kernel_rfl) (by kernel_rfl) (fun _ _ _ h => h) (Or.inl ⟨by rfl, ?_⟩) ?_
        rotate_left
        · (intro w hE; have c0 := cellb c0 hE; have a1 := cellb a1 hE; (try dsimp only); go_simp); (try with_reducible rfl)
        try simp only [Act.put, List.setIfInBounds_toArray, List.set_cons_zero, List.set_cons_succ]
        refine wpAnyE_take (i := 2) (oi := { dst := some 31, op := Op.move (Operand.tmp 4), type := 27, pos := "ref.go:420", after := #[], guard := none }) (v := ?_) rfl (by kernel_rfl) (by kernel_rfl) (by kernel_rfl) (by kernel_rfl) (fun _ _ _ h => h) (Or.inl ⟨by rfl, ?_⟩) ?_
        rotate_left
        · (intro w hE; have c0 := cellb c0 hE; have a1 := cellb a1 hE; (try dsimp only); go_simp); (try with_reducible rfl)
        try simp only [Act.put, List.setIfInBounds_toArray, List.set_cons_zero, List.set_cons_succ]
        refine wpAnyE_take (i := 3) (oi := { dst := some 32, op := Op.move (Operand.tmp 13), type := 3, pos := "ref.go:420", after := #[], guard := none }) (v := ?_) rfl (by kernel_rfl) (by kernel_rfl) (by kernel_rfl) (by kernel_rfl) (fun _ _ _ h => h) (Or.inl ⟨by rfl, ?_⟩) ?_
        rotate_left
        · (intro w hE; have c0 := cellb c0 hE; have a1 := cellb a1 hE; (try dsimp only); go_simp); (try with_reducible rfl)
        try simp only [Act.put, List.setIfInBounds_toArray, List.set_cons_zero, List.set_cons_succ]
        refine wpAnyE_take (i := 4) (oi := { dst := some 33, op := Op.indexAddr 27 (Operand.tmp 31) (Operand.tmp 32), type := 0, pos := "ref.go:420", after := #[{ on := 2, ground := Ground.data }, { on := 3, ground := Ground.data }], guard := none }) (v := ?_) rfl (by kernel_rfl) (by kernel_rfl) (by kernel_rfl) (by kernel_rfl) (fun _ _ _ h => h) (Or.inl ⟨by rfl, ?_⟩) ?_
        rotate_left
        · (intro w hE; have c0 := cellb c0 hE; have a1 := cellb a1 hE; (try dsimp only); go_simp); (try with_reducible rfl)
        try simp only [Act.put, List.setIfInBounds_toArray, List.set_cons_zero, List.set_cons_succ]
        refine wpAnyE_take (i := 5) (oi := { dst := some 34, op := Op.load 3 (Operand.tmp 33), type := 3, pos := "ref.go:420", after := #[{ on := 4, ground := Ground.data }], guard := none }) (v := ?_) rfl (by kernel_rfl) (by kernel_rfl) (by kernel_rfl) (by kernel_rfl) (fun _ _ _ h => h) (Or.inl ⟨by rfl, ?_⟩) ?_
        rotate_left
        · (intro w hE; have c0 := cellb c0 hE; have a1 := cellb a1 hE; (try dsimp only); go_simp); (try with_reducible rfl)
        try simp only [Act.put, List.setIfInBounds_toArray, List.set_cons_zero, List.set_cons_succ]
        refine wpAnyE_call (i := 6) (oi := { dst := some 35, op := Op.call { callee := Callee.value (Operand.func 35), args := #[Operand.tmp 29, Operand.tmp 30, Operand.tmp 34], argTypes := #[47, 48, 3] }, type := 4, pos := "ref.go:420", after := #[{ on := 0, ground := Ground.data }, { on := 1, ground := Ground.data }, { on := 5, ground := Ground.data }], guard := none }) (fun w hE => TM3.out w (hP'.carry hE) (hU'.carry hE)) rfl (by kernel_rfl) (by kernel_rfl) (by kernel_rfl) (by kernel_rfl) (fun _ _ _ h => h) (by rfl) (fun w hE => by (try dsimp only); go_simp) ?_
        try simp only [Act.put, List.setIfInBounds_toArray, List.set_cons_zero, List.set_cons_succ]
        refine wpAnyE_done (by kernel_rfl) (fun wy1 hE => ?_) _
        have hbz1 := bthen hbz hE
        have c0 := cellb c0 hE
        have a1 := cellb a1 hE
        have i1 := i1.carry hE
        have hP' := hP'.carry hE
        have hU' := hU'.carry hE
        clear hE
        have hB := hbz1
        obtain ⟨W9, hW9⟩ : ∃ v, v = wy1 := ⟨_, rfl⟩
        rw [← hW9] at hB i1 hP' ⊢
        clear hW9 c0 a1 hU'
        cases s
        · go_wp2_with fail
          go_roundw
          case rel => exact ⟨k + 1, by omega, by go_num, anyX_take_succ HX.out HNO.out HS.out.symm, i1, hP', hB⟩
          case measure => simp [intOf]; omega
        · have hany : os.any g = true := List.any_eq_true.2 ⟨h, List.mem_of_getElem? HX.out, HS.out.symm⟩
          have HA := Lib.hid hany
          clear hany
          go_wp2
          go_ret
          exact ⟨ret_bool (by rw [HR2.out, HA.out]; rfl), hB⟩
      · obtain rfl : k = n := by omega
        have hany : os.any g = false := by
          have h := HNO.out
          rwa [List.take_of_length_le (by rw [← HN.out]; exact Nat.le_refl _)] at h
        have HA := Lib.hid hany
        clear hany
        go_wp2
        go_ret
        exact ⟨ret_bool (by rw [HR2.out, HA.out]; rfl), hB⟩
  · have z : (E == 0) = false := by rw [beq_eq_false_iff_ne]; exact hE
    have hR : R = false := by rw [HR.out, z]; rfl
    have HR2 := Lib.hid hR
    have hte : tapE E = 4 := by rw [tapE, z]; rfl
    have hls : lsIf E X = [] := by rw [lsIf, z]; rfl
    rw [hls] at hq
    clear HR hR hq TM z
    rw [hte, hls]
    clear hte hls
    go_wp2
    go_ret
    exact ⟨ret_bool HR2.out.symm, bthen hB (below_new _ _)⟩

set_option maxRecDepth 100000 in
set_option maxHeartbeats 4000000 in
theorem AvoidR_any (v u z : Value) (ls : List (Int × Int)) (b : Nat) (l : List (Int × Int)) (os : List Int) (w : World) (hv : Pairs w v ls) (hl : ls.length ≤ 1000000) (hb : b < ls.length) (hu : Pairs w u l) (hlu : l.length ≤ 1000000) (h0 : 0 < l.length) (hz : Ints w z os) (hlz : os.length ≤ 1000000) (ho : ∀ x ∈ os, 1 ≤ x ∧ x ≤ 12) :
    Calls Tryz.prog 38 #[.agg #[v], .int .i64 b, u, z] w fun e w' => e = .returned (.tuple #[.int .i64 (avoT ls b l os).1, .int .i64 (avoT ls b l os).2]) ∧ Below w.heap.size w w' := by
  have TA := Lib.hid (fun t W hP hQ hR => AvoidsR_any v u z ls b t l os W hP hl hb hQ hlu h0 hR hlz ho)
  obtain ⟨R, hR⟩ : ∃ R, R = avoT ls b l os := ⟨_, rfl⟩
  rw [← hR]
  rw [avoT] at hR
  generalize okT ls b l os = g at TA hR
  have HR := Lib.hid hR
  have HV := Lib.hid hv
  have HU := Lib.hid hu
  have HZ := Lib.hid hz
  obtain ⟨a, cp, rfl, _, _⟩ := id hv
  obtain ⟨a2, cp2, rfl, _, _⟩ := id hu
  obtain ⟨a3, cp3, rfl, _, _⟩ := id hz
  clear hv hu hz hR ho
  go_enter Tryz.func38, Tryz.ntmps38
  go_upto_region 1 with fail
  obtain ⟨W1, hW1⟩ : ∃ v, v = World.alloc w (Obj.cells #[.slice a ls.length cp] 47) := ⟨_, rfl⟩
  have kW1 : Below w.heap.size w W1 := by rw [hW1]; exact below_new _ _
  have iW1 : Blk W1 (w.heap.size) 47 [.slice a ls.length cp] := by rw [hW1]; exact Blk.new _ _ _
  have sW1 : W1.heap.size = w.heap.size + 1 := by rw [hW1]; simp
  rw [← hW1]
  clear hW1
  have i1 := iW1
  have hB := kW1
  clear iW1 kW1 sW1
  go_wp2_with fail
  go_loopw [10] (fun i wr => ∃ k : Nat, k ≤ 9 ∧ i = .int .i64 k ∧ (∀ m : Nat, m < k → g (-(m : Int)) = false ∧ g (m : Int) = false) ∧ Blk wr w.heap.size 47 [.slice a ls.length cp] ∧ Below w.heap.size w wr) (fun i _ => 9 - (intOf i).toNat)
  case atStart => exact ⟨0, by omega, rfl, fun m hm => by omega, i1, hB⟩
  case round =>
    clear i1 hB
    obtain ⟨k, hk, rfl, hno, i1, hB⟩ := hrel
    have HNO := Lib.hid hno
    clear hno
    have a0 := i1.cell (j := 0) (v := .slice a ls.length cp) rfl
    by_cases hlt : k < 9
    · have d1 : (k : Int) ≤ 8 := by omega
      have e1 : IntKind.i64.wrap (-(k : Int)) = -(k : Int) := IntWalk.i64_in _ (by omega)
      have T1 := Lib.hid (TA.out (-(k : Int)))
      have T2 := Lib.hid (TA.out (k : Int))
      obtain ⟨p, hp⟩ : ∃ p, p = g (-(k : Int)) := ⟨_, rfl⟩
      obtain ⟨q, hq⟩ : ∃ q, q = g (k : Int) := ⟨_, rfl⟩
      rw [← hp] at T1
      rw [← hq] at T2
      have HP := Lib.hid hp
      have HQ := Lib.hid hq
      clear hp hq
      go_wp2_with fail
      refine (T1.out wr (HV.out.carry hB) (HU.out.carry hB) (HZ.out.carry hB)).mono ?_
      rintro e W2 ⟨rfl, hb⟩
      have a0 := cellb a0 hb
      replace i1 := i1.carry hb
      replace hB := bthen hB hb
      clear hb T1
      cases p
      · go_wp2_with fail
        refine (T2.out W2 (HV.out.carry hB) (HU.out.carry hB) (HZ.out.carry hB)).mono ?_
        rintro e W3 ⟨rfl, hb⟩
        replace i1 := i1.carry hb
        replace hB := bthen hB hb
        clear hb a0 T2
        cases q
        · go_wp2_with fail
          go_roundw
          case rel =>
            refine ⟨k + 1, by omega, by go_num, fun m hm => ?_, i1, hB⟩
            by_cases c : m < k
            · exact HNO.out m c
            · obtain rfl : m = k := by omega
              exact ⟨HP.out.symm, HQ.out.symm⟩
          case measure => simp [intOf]; omega
        · have hr : R = ((k : Int), 0) := by rw [HR.out, avo_pos g k (by omega) HNO.out HP.out.symm HQ.out.symm]
          have HR2 := Lib.hid hr
          clear hr
          go_wp2
          go_ret2
          exact ⟨by rw [HR2.out]; rfl, hB⟩
      · have hr : R = (-(k : Int), 0) := by rw [HR.out, avo_neg g k (by omega) HNO.out HP.out.symm]
        have HR2 := Lib.hid hr
        clear hr T2
        go_wp2
        go_ret2
        exact ⟨by rw [HR2.out]; rfl, hB⟩
    · obtain rfl : k = 9 := by omega
      have hr : R = (0, 18) := by rw [HR.out, avo_none g HNO.out]
      have HR2 := Lib.hid hr
      clear hr
      go_wp2
      go_ret2
      exact ⟨by rw [HR2.out]; rfl, hB⟩

set_option maxRecDepth 100000 in
set_option maxHeartbeats 4000000 in
theorem ints_any (v : Value) (l : List Int) (w : World) (hv : Ints w v l) (hl : l.length ≤ 1000000) :
    Calls Tryz.prog 29 #[v] w fun e w' => (∃ u, e = .returned u ∧ Ints w' u l) ∧ Below w.heap.size w w' := by
  obtain ⟨i0, hi, hz0, hz1, hz2⟩ := info_parts Tryz.infoInt
  rcases Nat.eq_zero_or_pos l.length with h0 | h0
  · obtain rfl : l = [] := List.length_eq_zero_iff.1 h0
    obtain ⟨a, cp, rfl, _, _⟩ := hv
    go_enter Tryz.func29, Tryz.ntmps29
    go_wp2_with (at_builtin; refine wpList_append_empty rfl (.tmp 3) (.tmp 4) 27 27 3 3 rfl i0 _ Tryz.underlying27 Tryz.underlying27 hi hz0 w.heap.size 0 rfl a cp rfl ?_)
    go_ret
    exact ⟨⟨_, rfl, ⟨_, _, rfl, Nat.le_refl _, fun h => by simp at h⟩⟩, below_new _ _⟩
  · have k1 := below_new w (.cells #[] 3)
    go_enter Tryz.func29, Tryz.ntmps29
    go_wp2_with (at_builtin; refine wpList_append_freshO rfl (.tmp 3) (.tmp 4) 27 27 3 rfl i0 (.int .i64 0) 1 8 Tryz.underlying27 hi hz0 hz1 hz2 rfl w.heap.size 0 rfl v l.length _ rfl ((hv.carry k1).src Tryz.underlying27 h0) h0 (by unfold maxLen; omega) (by omega) ?_; intro u w2 hown hb)
    have hP := Ints.of_own hown rfl
    have hb' := bthen k1 hb
    go_ret
    exact ⟨⟨_, rfl, hP⟩, hb'⟩
end

section
set_option linter.unusedSimpArgs false
set_option linter.unusedVariables false
open Go.RowKit

/-- the error of a proof by an edge. -/
def chkN (ls l : List (Int × Int)) (h ed : Int) : Int := firstE [meeE ls l h, whenE (decide (ed < 0) || decide ((l.length : Int) ≤ ed)) 10]
def chkE (ls l : List (Int × Int)) (h ed : Int) : Int := orE (chkN ls l h ed) (whenE (!sepB (edgeK l ed.toNat) ls h) 19)
theorem chkN_zero {ls l : List (Int × Int)} {h ed : Int} (he : chkN ls l h ed = 0) : meeE ls l h = 0 ∧ 0 ≤ ed ∧ ed < l.length := by
  unfold chkN at he
  obtain ⟨h1, he⟩ := firstE_cons_ok he
  obtain ⟨h2, _⟩ := firstE_cons_ok he
  refine ⟨h1, ?_⟩
  unfold whenE at h2
  by_cases c1 : ed < 0
  · simp [c1] at h2
  · by_cases c2 : (l.length : Int) ≤ ed
    · simp [c2] at h2
    · omega
set_option maxRecDepth 100000 in
set_option maxHeartbeats 4000000 in
theorem CheckEdge_any (v u : Value) (ls l : List (Int × Int)) (h ed : Int) (w : World) (hv : Pairs w v ls) (hl : ls.length ≤ 1000000) (hu : Pairs w u l) (hlu : l.length ≤ 1000000) :
    Calls Tryz.prog 27 #[.agg #[v], u, .int .i64 h, .int .i64 ed] w fun e w' => e = .returned (.int .i64 (chkE ls l h ed)) ∧ Below w.heap.size w w' := by
  obtain ⟨r, hr⟩ : ∃ r, r = chkE ls l h ed := ⟨_, rfl⟩
  rw [← hr]
  rw [chkE, orE] at hr
  have hso : meeE ls l h = 0 → tunedB ls h = false → SusOk ls h := fun he ht => by
    obtain ⟨h1, _, h3⟩ := meeE_zero he
    exact susOk_of h1 (by omega) ht
  have TC := Lib.hid (fun W hP hQ => checkMeeting_any v u ls l h W hP hl hQ hlu)
  have TE := Lib.hid (fun W hQ => edges_any u l W hQ hlu)
  have TS := Lib.hid (fun W hP (he : meeE ls l h = 0) => separates_any (edgeK l ed.toNat) v ls h W hP hl (hso he))
  have TQ := Lib.hid (fun W => whenH_any (!sepB (edgeK l ed.toNat) ls h) 19 W)
  have hcn := Lib.hid (fun (he : chkN ls l h ed = 0) => chkN_zero he)
  have HEK := Lib.hid (fun k (hk : k < l.length) => edgesL_get l k hk)
  have HEL := Lib.hid (edgesL_len l)
  clear hso
  obtain ⟨cb, hcb⟩ : ∃ c, c = (decide (ed < 0) || decide ((l.length : Int) ≤ ed)) := ⟨_, rfl⟩
  have TW := Lib.hid (fun W => whenH_any cb 10 W)
  rw [chkN, ← hcb] at hr
  rw [chkN, ← hcb] at hcn
  generalize whenE cb 10 = e2 at TW hr hcn
  have TF := Lib.hid (fun (u : Value) (W : World) (hI : Ints W u [meeE ls l h, e2]) => firstH_any u [meeE ls l h, e2] W (by simp [maxLen]) hI)
  generalize firstE [meeE ls l h, e2] = E at TF hr hcn
  generalize sepB (edgeK l ed.toNat) ls h = sp at TS TQ hr
  generalize whenE (!sp) 19 = Z at TQ hr
  generalize meeE ls l h = e1 at TC TF TS hcn
  have HCB := Lib.hid hcb
  have HR := Lib.hid hr
  have HV := Lib.hid hv
  have HU := Lib.hid hu
  obtain ⟨a, cp, rfl, _, _⟩ := id hv
  obtain ⟨a2, cp2, rfl, _, _⟩ := id hu
  clear hv hu hr hcb
  go_enter Tryz.func27, Tryz.ntmps27
  go_upto_region 1 with fail
  obtain ⟨W1, hW1⟩ : ∃ v, v = World.alloc w (Obj.cells #[.slice a ls.length cp] 57) := ⟨_, rfl⟩
  have kW1 : Below w.heap.size w W1 := by rw [hW1]; exact below_new _ _
  have iW1 : Blk W1 (w.heap.size) 57 [.slice a ls.length cp] := by rw [hW1]; exact Blk.new _ _ _
  have sW1 : W1.heap.size = w.heap.size + 1 := by rw [hW1]; simp
  rw [← hW1]
  clear hW1
  have a0 := iW1.cell (j := 0) (v := .slice a ls.length cp) rfl
  have hB := kW1
  clear iW1 kW1 sW1
  by_cases c : ed < 0
  · obtain rfl : cb = true := by rw [HCB.out]; simp [c]
    go_wp2_with fail
    refine (TC.out W1 (HV.out.carry hB) (HU.out.carry hB)).mono ?_
    rintro e w3 ⟨rfl, hb⟩
    have a0 := cellb a0 hb
    replace hB := bthen hB hb
    clear hb
    go_wp2_with fail
    refine (TW.out w3).mono ?_
    rintro e w' ⟨rfl, rfl⟩
    go_wp2_with fail
    obtain ⟨W4, hW4⟩ : ∃ v, v = World.alloc w3 (Obj.cells #[.int .i64 e1, .int .i64 e2] 28) := ⟨_, rfl⟩
    have kW4 : Below w3.heap.size w3 W4 := by rw [hW4]; exact below_new _ _
    have iW4 : Blk W4 (w3.heap.size) 28 [.int .i64 e1, .int .i64 e2] := by rw [hW4]; exact Blk.new _ _ _
    have sW4 : W4.heap.size = w3.heap.size + 1 := by rw [hW4]; simp
    rw [← hW4]
    clear hW4
    refine (TF.out _ W4 (BlkI.ints (l := [e1, e2]) iW4 rfl)).mono ?_
    rintro e w' ⟨rfl, rfl⟩
    have hne : ¬ E = 0 := fun he => by
      have := (hcn.out he).2.1
      omega
    obtain rfl : r = E := by rw [HR.out, if_neg hne]
    have z : (r == 0) = false := by rw [beq_eq_false_iff_ne]; exact hne
    clear hne
    go_wp2_with fail
    go_ret
    exact ⟨rfl, bthen hB kW4⟩
  · have TW2 := Lib.hid (show ∀ W, Calls Tryz.prog 85 #[.bool (decide (ed < 0) || decide ((l.length : Int) ≤ ed)), .int .i64 10] W fun r w' => r = .returned (.int .i64 e2) ∧ W = w' by rw [← HCB.out]; exact TW.out)
    clear TW
    go_wp2_with fail
    refine (TC.out W1 (HV.out.carry hB) (HU.out.carry hB)).mono ?_
    rintro e w3 ⟨rfl, hb⟩
    have a0 := cellb a0 hb
    replace hB := bthen hB hb
    clear hb
    go_wp2_with fail
    refine (TW2.out w3).mono ?_
    rintro e w' ⟨rfl, rfl⟩
    go_wp2_with fail
    obtain ⟨W4, hW4⟩ : ∃ v, v = World.alloc w3 (Obj.cells #[.int .i64 e1, .int .i64 e2] 28) := ⟨_, rfl⟩
    have kW4 : Below w3.heap.size w3 W4 := by rw [hW4]; exact below_new _ _
    have iW4 : Blk W4 (w3.heap.size) 28 [.int .i64 e1, .int .i64 e2] := by rw [hW4]; exact Blk.new _ _ _
    have sW4 : W4.heap.size = w3.heap.size + 1 := by rw [hW4]; simp
    rw [← hW4]
    clear hW4
    refine (TF.out _ W4 (BlkI.ints (l := [e1, e2]) iW4 rfl)).mono ?_
    rintro e w' ⟨rfl, rfl⟩
    have a0 := cellb a0 kW4
    replace hB := bthen hB kW4
    clear iW4 kW4 sW4 TF TC TW2
    by_cases he : E = 0
    · subst he
      obtain rfl : r = Z := by rw [HR.out, if_pos rfl]
      obtain ⟨h1, h2, h3⟩ := hcn.out (by trivial)
      subst h1
      obtain ⟨k, rfl⟩ : ∃ k : Nat, ed = k := ⟨ed.toNat, by omega⟩
      have hk : k < l.length := by omega
      rw [Int.toNat_natCast] at TS
      generalize hx : edgeK l k = x at TS
      obtain ⟨x0, x1, x2, x3⟩ := x
      simp only at TS
      have HEK2 := Lib.hid (HEK.out k hk)
      rw [hx] at HEK2
      have hkl : (k : Int) < (l.length : Int) := by omega
      clear HEK hx h2 h3 c HCB hcn
      go_upto_region 4 with fail
      have hR := Below.refl W4.heap.size W4
      refine wp_region_held_drew (S := (fun W => W.cell? ⟨w.heap.size, 0, none⟩ = some (.slice a ls.length cp))) (by kernel_rfl) (cellb a0 hR.drew) (fun hHeld0 => ?_)
      obtain ⟨wzd, hwz⟩ : ∃ v, v = W4.drew := ⟨_, rfl⟩
      rw [← hwz] at hHeld0 ⊢
      have hbzd : Below W4.heap.size W4 wzd := by rw [hwz]; exact hR.drew
      have hlzd : Below W4.heap.size W4 wzd := by rw [hwz]; exact (Below.refl _ _).drew
      clear hwz hlzd
      refine wpAnyH_take (i := 0) (oi := { dst := some 28, op := Op.move (Operand.tmp 1), type := 48, pos := "filter.go:231", after := #[], guard := none }) (v := ?_) rfl (by kernel_rfl) (by kernel_rfl) (by kernel_rfl) (fun _ _ _ h => h) (Or.inl ⟨by rfl, ?_⟩) (by assumption) ?_
      rotate_left
      · (intro w hSw; (try dsimp only at hSw); go_simp); (try with_reducible rfl)
      try simp only [Act.put, List.setIfInBounds_toArray, List.set_cons_zero, List.set_cons_succ]
      refine wpAnyH_take (i := 2) (oi := { dst := some 30, op := Op.move (Operand.tmp 3), type := 3, pos := "filter.go:231", after := #[], guard := none }) (v := ?_) rfl (by kernel_rfl) (by kernel_rfl) (by kernel_rfl) (fun _ _ _ h => h) (Or.inl ⟨by rfl, ?_⟩) (by assumption) ?_
      rotate_left
      · (intro w hSw; (try dsimp only at hSw); go_simp); (try with_reducible rfl)
      try simp only [Act.put, List.setIfInBounds_toArray, List.set_cons_zero, List.set_cons_succ]
      refine wpAnyH_take (i := 5) (oi := { dst := some 33, op := Op.load 57 (Operand.tmp 4), type := 57, pos := "filter.go:231", after := #[], guard := none }) (v := ?_) rfl (by kernel_rfl) (by kernel_rfl) (by kernel_rfl) (fun _ _ _ h => h) (Or.inl ⟨by rfl, ?_⟩) (by assumption) ?_
      rotate_left
      · (intro w hSw; (try dsimp only at hSw); go_simp); (try with_reducible rfl)
      try simp only [Act.put, List.setIfInBounds_toArray, List.set_cons_zero, List.set_cons_succ]
      refine wpAnyH_take (i := 6) (oi := { dst := some 34, op := Op.move (Operand.tmp 2), type := 3, pos := "filter.go:231", after := #[], guard := none }) (v := ?_) rfl (by kernel_rfl) (by kernel_rfl) (by kernel_rfl) (fun _ _ _ h => h) (Or.inl ⟨by rfl, ?_⟩) (by assumption) ?_
      rotate_left
      · (intro w hSw; (try dsimp only at hSw); go_simp); (try with_reducible rfl)
      try simp only [Act.put, List.setIfInBounds_toArray, List.set_cons_zero, List.set_cons_succ]
      refine wpAnyH_ready (rs := [1]) (by kernel_rfl) (by simp) ?_
      refine (AllReadyH.cons (o := { dst := some 29, op := Op.call { callee := Callee.value (Operand.func 82), args := #[Operand.tmp 28], argTypes := #[48] }, type := 144, pos := "filter.go:231", after := #[{ on := 0, ground := Ground.data }], guard := none }) rfl (fun K hK => ?_) AllReadyH.nil)
      go_simp
      refine (TE.out wzd (HU.out.carry (bthen hB hbzd))).mono ?_
      rintro e wz1 ⟨⟨u, rfl, hu⟩, hl2⟩
      obtain ⟨b, off, cap, rfl, hcs⟩ := hu.head (by rw [HEL.out]; omega)
      obtain ⟨c0, c1, c2, c3⟩ := hcs k _ HEK2.out
      rw [HEL.out]
      simp only at c0 c1 c2 c3
      have hl := hl2
      clear hl2 hcs hu
      (try go_wp2_with fail)
      have hbz1 := bthen hbzd hl
      clear hl
      refine hK.out _ _ (cellb a0 hbz1) (fun hHeld1 => ?_)
      clear hK K hHeld0
      try simp only [Act.put, List.setIfInBounds_toArray, List.set_cons_zero, List.set_cons_succ]
      refine wpAnyH_take (i := 3) (oi := { dst := some 31, op := Op.indexAddr 144 (Operand.tmp 29) (Operand.tmp 30), type := 0, pos := "filter.go:231", after := #[{ on := 1, ground := Ground.data }, { on := 2, ground := Ground.data }], guard := none }) (v := ?_) rfl (by kernel_rfl) (by kernel_rfl) (by kernel_rfl) (fun _ _ _ h => h) (Or.inl ⟨by rfl, ?_⟩) (by assumption) ?_
      rotate_left
      · (intro w hSw; (try dsimp only at hSw); go_simp); (try with_reducible rfl)
      try simp only [Act.put, List.setIfInBounds_toArray, List.set_cons_zero, List.set_cons_succ]
      refine wpAnyH_ready (rs := [4]) (by kernel_rfl) (by simp) ?_
      refine (AllReadyH.cons (o := { dst := some 32, op := Op.load 146 (Operand.tmp 31), type := 146, pos := "filter.go:231", after := #[{ on := 3, ground := Ground.data }], guard := none }) rfl (fun K hK => ?_) AllReadyH.nil)
      go_simp
      refine hK.out _ _ (cellb a0 hbz1) (fun hHeld2 => ?_)
      clear hK K hHeld1
      try simp only [Act.put, List.setIfInBounds_toArray, List.set_cons_zero, List.set_cons_succ]
      refine wpAnyH_ready (rs := [7]) (by kernel_rfl) (by simp) ?_
      refine (AllReadyH.cons (o := { dst := some 35, op := Op.call { callee := Callee.value (Operand.func 84), args := #[Operand.tmp 32, Operand.tmp 33, Operand.tmp 34], argTypes := #[146, 57, 3] }, type := 4, pos := "filter.go:231", after := #[{ on := 4, ground := Ground.data }, { on := 5, ground := Ground.data }, { on := 6, ground := Ground.data }, { on := 1, ground := Ground.chain }], guard := none }) rfl (fun K hK => ?_) AllReadyH.nil)
      go_simp
      refine (TS.out wz1 (HV.out.carry (bthen hB hbz1)) (by trivial)).mono ?_
      rintro e wz7 ⟨rfl, hl⟩
      (try go_wp2_with fail)
      have hbz7 := bthen hbz1 hl
      clear hl
      refine hK.out _ _ (cellb a0 hbz7) (fun hHeld3 => ?_)
      clear hK K hHeld2
      try simp only [Act.put, List.setIfInBounds_toArray, List.set_cons_zero, List.set_cons_succ]
      refine wpAnyH_take (i := 8) (oi := { dst := some 36, op := Op.unOp UnOp.not 4 (Operand.tmp 35), type := 4, pos := "filter.go:231", after := #[{ on := 7, ground := Ground.data }], guard := none }) (v := ?_) rfl (by kernel_rfl) (by kernel_rfl) (by kernel_rfl) (fun _ _ _ h => h) (Or.inl ⟨by rfl, ?_⟩) (by assumption) ?_
      rotate_left
      · (intro w hSw; (try dsimp only at hSw); go_simp); (try with_reducible rfl)
      try simp only [Act.put, List.setIfInBounds_toArray, List.set_cons_zero, List.set_cons_succ]
      refine wpAnyH_ready (rs := [9]) (by kernel_rfl) (by simp) ?_
      refine (AllReadyH.cons (o := { dst := some 37, op := Op.call { callee := Callee.value (Operand.func 85), args := #[Operand.tmp 36, Operand.const (Value.int IntKind.i64 19)], argTypes := #[4, 28] }, type := 28, pos := "filter.go:231", after := #[{ on := 8, ground := Ground.data }, { on := 7, ground := Ground.chain }], guard := none }) rfl (fun K hK => ?_) AllReadyH.nil)
      go_simp
      refine (TQ.out wz7).mono ?_
      rintro e wz9 ⟨rfl, hE⟩
      have hl : Below wz7.heap.size wz7 wz9 := by rw [← hE]; exact Below.refl _ _
      clear hE
      (try go_wp2_with fail)
      have hbz9 := bthen hbz7 hl
      clear hl
      refine hK.out _ _ (cellb a0 hbz9) (fun hHeld4 => ?_)
      clear hK K hHeld3
      try simp only [Act.put, List.setIfInBounds_toArray, List.set_cons_zero, List.set_cons_succ]
      refine wpAnyH_take (i := 10) (oi := { dst := some 8, op := Op.assign (Operand.tmp 37), type := 28, pos := "filter.go:231", after := #[{ on := 9, ground := Ground.data }, { on := 9, ground := Ground.chain }, { on := 0, ground := Ground.phase }, { on := 1, ground := Ground.phase }, { on := 2, ground := Ground.phase }, { on := 3, ground := Ground.phase }, { on := 4, ground := Ground.phase }, { on := 5, ground := Ground.phase }, { on := 6, ground := Ground.phase }, { on := 7, ground := Ground.phase }, { on := 8, ground := Ground.phase }, { on := 9, ground := Ground.phase }], guard := none }) (v := ?_) rfl (by kernel_rfl) (by kernel_rfl) (by kernel_rfl) (fun _ _ _ h => h) (Or.inl ⟨by rfl, ?_⟩) (by assumption) ?_
      rotate_left
      · (intro w hSw; (try dsimp only at hSw); go_simp); (try with_reducible rfl)
      try simp only [Act.put, List.setIfInBounds_toArray, List.set_cons_zero, List.set_cons_succ]
      refine wpAnyH_done (by kernel_rfl) ?_ _
      clear hHeld4
      replace hB := bthen hB hbz9
      obtain ⟨W5, hW5⟩ : ∃ v, v = wz9 := ⟨_, rfl⟩
      rw [← hW5] at hB ⊢
      clear hW5
      go_wp2
      go_ret
      exact ⟨rfl, hB⟩
    · obtain rfl : r = E := by rw [HR.out, if_neg he]
      have z : (r == 0) = false := by rw [beq_eq_false_iff_ne]; exact he
      clear he
      go_wp2_with fail
      go_ret
      exact ⟨rfl, hB⟩
end

end Go.Proofs.YtlohcnecehlljaaGreatDoor

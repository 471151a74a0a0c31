/- The law's helpers for filters; the reference's checks of filters. (printed by gen/harQd.py) -/
import Derived.Test.YtpkaoechbmbolaaGreatDoorHqA
namespace Go.Proofs.YtpkaoechbmbolaaGreatDoor
section
set_option linter.unusedSimpArgs false
set_option linter.unusedVariables false
open Go.RowKit

theorem ownsRow_succ2 {w : World} {base e size n : Nat} {v : Value} {xs : List Value} (h : w.ownsRow base e size v (n + 1) xs) : ∃ g cap, v = .slice (some ⟨g, 0, none⟩) (n + 1) cap := by
  rcases h.2 with ⟨_, h2⟩ | ⟨g, cap, cur, hv, _⟩
  · omega
  · exact ⟨g, cap, hv⟩
theorem ownsRow_slice {w : World} {base e size n : Nat} {v : Value} {xs : List Value} (h : w.ownsRow base e size v n xs) : ∃ a cap, v = .slice a n cap := by
  rcases h.2 with ⟨h1, h2⟩ | ⟨g, cap, cur, hv, _⟩
  · exact ⟨none, 0, by rw [h1, h2]⟩
  · exact ⟨_, cap, hv⟩
theorem own_setCell {w : World} {base e size n B j : Nat} {v x : Value} {xs : List Value} (h : w.ownsRow base e size v n xs) (hB : B < base) : (w.setCell ⟨B, j, none⟩ x).ownsRow base e size v n xs := by
  refine ⟨h.1, ?_⟩
  rcases h.2 with h1 | ⟨g, cap, cur, hv, hg, hh, hr⟩
  · exact .inl h1
  · exact .inr ⟨g, cap, cur, hv, hg, (Below.heap_setCell _ _ _ _ (show g ≠ B by omega)).trans hh, hr⟩
theorem flat2_take_succ (ls : List (Int × Int)) (k : Nat) (x : Int × Int) (hk : ls[k]? = some x) : (flat2 (ls.take (k + 1))).map (Value.int .i64) = (flat2 (ls.take k)).map (Value.int .i64) ++ [.int .i64 x.1, .int .i64 x.2] := by
  rw [List.take_add_one, hk, flat2, flat2, List.map_append, List.flatten_append, List.map_append]; simp
theorem Tryz.infoBranchR : (Tryz.prog.info? 36).map (fun i => (i.zero, i.size, i.bytes)) = some (some (.agg #[.int .i64 0, .int .i64 0]), 2, 16) := by kernel_rfl
theorem Tryz.undBranchesR : Tryz.prog.underlying 22 = some (.slice 36) := by kernel_rfl
theorem Tryz.infoFilterR : (Tryz.prog.info? 24).map (·.size) = some 1 := by kernel_rfl


theorem ShortR_any (v : Value) (ls : List (Int × Int)) (w : World) (hv : Pairs w v ls) :
    Calls Tryz.prog 4 #[.agg #[v]] w fun e w' => e = .returned (.bool (decide ((ls.length : Int) ≤ 4))) ∧ Below w.heap.size w w' := by
  obtain ⟨a, cp, rfl, _, _⟩ := hv
  go_enter Tryz.func4, Tryz.ntmps4
  go_upto_region 1 with fail
  obtain ⟨W1, hW1⟩ : ∃ v, v = World.alloc w (Obj.cells #[.slice a ls.length cp] 24) := ⟨_, rfl⟩
  have kW1 : Below w.heap.size w W1 := by rw [hW1]; exact below_new _ _
  have iW1 : Blk W1 (w.heap.size) 24 [.slice a ls.length cp] := by rw [hW1]; exact Blk.new _ _ _
  have sW1 : W1.heap.size = w.heap.size + 1 := by rw [hW1]; simp
  rw [← hW1]
  clear hW1
  have a0 := iW1.cell (j := 0) (v := .slice a ls.length cp) rfl
  go_wp2
  go_ret
  exact ⟨rfl, kW1⟩
set_option maxRecDepth 100000 in
set_option maxHeartbeats 4000000 in
theorem CheckFilterR_any (v : Value) (ls : List (Int × Int)) (w : World) (hv : Pairs w v ls) (hl : ls.length ≤ 1000000) :
    Calls Tryz.prog 6 #[.agg #[v]] w fun e w' => e = .returned (.int .i64 (fltE ls)) ∧ Below w.heap.size w w' := by
  obtain ⟨n, hn⟩ : ∃ n, n = ls.length := ⟨_, rfl⟩
  obtain ⟨a, cp, rfl, _, hcs0⟩ := id hv
  obtain ⟨E, hE⟩ : ∃ E, E = fltE ls := ⟨_, rfl⟩
  rw [← hE]
  rw [fltE, fltN] at hE
  rw [← hn] at hcs0 hl hE ⊢
  have hcs : ∀ k : Nat, k < n → ∃ b off x, a = some ⟨b, off, none⟩ ∧ ls[k]? = some x ∧ w.cell? ⟨b, off + k * 2, none⟩ = some (.int .i64 x.1) ∧ w.cell? ⟨b, off + k * 2 + 1, none⟩ = some (.int .i64 x.2) := fun k hk => by
    obtain ⟨b, off, rfl, hc⟩ := hcs0 (by omega)
    have e1 := hc k (ls[k]'(by omega)) (List.getElem?_eq_getElem (by omega))
    exact ⟨b, off, _, rfl, List.getElem?_eq_getElem (by omega), e1⟩
  have HC := Lib.hid hcs
  have HN := Lib.hid hn
  have T1 := Lib.hid (fun W => WhenR_any ((n : Int) == 0) 12 W)
  have T2 := Lib.hid (fun W => WhenR_any (decide ((3 : Int) < n)) 5 W)
  generalize hg1 : whenE ((n : Int) == 0) 12 = e1 at T1 hE
  generalize hg2 : whenE (decide ((3 : Int) < n)) 5 = e2 at T2 hE
  have TF := Lib.hid (fun (u : Value) (W : World) (h : Ints W u [e1, e2]) => FirstR_any u [e1, e2] W (by simp) h)
  generalize firstE [e1, e2] = eN at TF hE
  have HE := Lib.hid hE
  clear hv hcs0 hcs hn hE hg1 hg2
  go_enter Tryz.func6, Tryz.ntmps6
  go_upto_region 1 with fail
  obtain ⟨W1, hW1⟩ : ∃ v, v = World.alloc w (Obj.cells #[.slice a n cp] 24) := ⟨_, rfl⟩
  have kW1 : Below w.heap.size w W1 := by rw [hW1]; exact below_new _ _
  have iW1 : Blk W1 (w.heap.size) 24 [.slice a n cp] := by rw [hW1]; exact Blk.new _ _ _
  have sW1 : W1.heap.size = w.heap.size + 1 := by rw [hW1]; simp
  rw [← hW1]
  clear hW1
  have i1 := iW1
  have a0 := i1.cell (j := 0) (v := .slice a n cp) rfl
  have hB := kW1
  clear iW1 kW1 sW1
  refine wp_region_E 99 (by kernel_rfl) ?_
  obtain ⟨wz, hwz⟩ : ∃ v, v = W1.drew := ⟨_, rfl⟩
  rw [← hwz]
  have hlz : Below W1.heap.size W1 wz := by rw [hwz]; exact (Below.refl _ _).drew
  have hbz := bthen hB hlz
  have a0 := cellb a0 hlz
  have i1 := i1.carry hlz
  clear hwz hlz
  refine wpAnyE_take (i := 0) (oi := { dst := some 7, op := Op.fieldAddr 24 (Operand.tmp 1) 0, type := 0, pos := "ref.go:253", after := #[], guard := none }) (v := ?_) rfl (by kernel_rfl) (by kernel_rfl) (by kernel_rfl) (by kernel_rfl) (fun _ _ _ h => h) (Or.inl ⟨by rfl, ?_⟩) ?_
  rotate_left
  · (intro w hE; have a0 := cellb a0 hE; (try dsimp only); go_simp); (try with_reducible rfl)
  try simp only [Act.put, List.setIfInBounds_toArray, List.set_cons_zero, List.set_cons_succ]
  refine wpAnyE_take (i := 1) (oi := { dst := some 8, op := Op.load 22 (Operand.tmp 7), type := 22, pos := "ref.go:253", after := #[{ on := 0, ground := Ground.data }], guard := none }) (v := ?_) rfl (by kernel_rfl) (by kernel_rfl) (by kernel_rfl) (by kernel_rfl) (fun _ _ _ h => h) (Or.inl ⟨by rfl, ?_⟩) ?_
  rotate_left
  · (intro w hE; have a0 := cellb a0 hE; (try dsimp only); go_simp); (try with_reducible rfl)
  try simp only [Act.put, List.setIfInBounds_toArray, List.set_cons_zero, List.set_cons_succ]
  refine wpAnyE_take (i := 2) (oi := { dst := some 9, op := Op.call { callee := Callee.builtin Builtin.len, args := #[Operand.tmp 8], argTypes := #[22] }, type := 3, pos := "ref.go:253", after := #[{ on := 1, ground := Ground.data }], guard := none }) (v := ?_) rfl (by kernel_rfl) (by kernel_rfl) (by kernel_rfl) (by kernel_rfl) (fun _ _ _ h => h) (Or.inl ⟨by rfl, ?_⟩) ?_
  rotate_left
  · (intro w hE; have a0 := cellb a0 hE; (try dsimp only); go_simp); (try with_reducible rfl)
  try simp only [Act.put, List.setIfInBounds_toArray, List.set_cons_zero, List.set_cons_succ]
  refine wpAnyE_take (i := 3) (oi := { dst := some 10, op := Op.binOp BinOp.eql 3 (Operand.tmp 9) (Operand.const (Value.int IntKind.i64 0)) 3, type := 4, pos := "ref.go:253", after := #[{ on := 2, ground := Ground.data }], guard := none }) (v := ?_) rfl (by kernel_rfl) (by kernel_rfl) (by kernel_rfl) (by kernel_rfl) (fun _ _ _ h => h) (Or.inl ⟨by rfl, ?_⟩) ?_
  rotate_left
  · (intro w hE; have a0 := cellb a0 hE; (try dsimp only); go_simp); (try with_reducible rfl)
  try simp only [Act.put, List.setIfInBounds_toArray, List.set_cons_zero, List.set_cons_succ]
  refine wpAnyE_take (i := 5) (oi := { dst := some 12, op := Op.fieldAddr 24 (Operand.tmp 1) 0, type := 0, pos := "ref.go:253", after := #[], guard := none }) (v := ?_) rfl (by kernel_rfl) (by kernel_rfl) (by kernel_rfl) (by kernel_rfl) (fun _ _ _ h => h) (Or.inl ⟨by rfl, ?_⟩) ?_
  rotate_left
  · (intro w hE; have a0 := cellb a0 hE; (try dsimp only); go_simp); (try with_reducible rfl)
  try simp only [Act.put, List.setIfInBounds_toArray, List.set_cons_zero, List.set_cons_succ]
  refine wpAnyE_take (i := 6) (oi := { dst := some 13, op := Op.load 22 (Operand.tmp 12), type := 22, pos := "ref.go:253", after := #[{ on := 5, ground := Ground.data }], guard := none }) (v := ?_) rfl (by kernel_rfl) (by kernel_rfl) (by kernel_rfl) (by kernel_rfl) (fun _ _ _ h => h) (Or.inl ⟨by rfl, ?_⟩) ?_
  rotate_left
  · (intro w hE; have a0 := cellb a0 hE; (try dsimp only); go_simp); (try with_reducible rfl)
  try simp only [Act.put, List.setIfInBounds_toArray, List.set_cons_zero, List.set_cons_succ]
  refine wpAnyE_take (i := 7) (oi := { dst := some 14, op := Op.call { callee := Callee.builtin Builtin.len, args := #[Operand.tmp 13], argTypes := #[22] }, type := 3, pos := "ref.go:253", after := #[{ on := 6, ground := Ground.data }], guard := none }) (v := ?_) rfl (by kernel_rfl) (by kernel_rfl) (by kernel_rfl) (by kernel_rfl) (fun _ _ _ h => h) (Or.inl ⟨by rfl, ?_⟩) ?_
  rotate_left
  · (intro w hE; have a0 := cellb a0 hE; (try dsimp only); go_simp); (try with_reducible rfl)
  try simp only [Act.put, List.setIfInBounds_toArray, List.set_cons_zero, List.set_cons_succ]
  refine wpAnyE_take (i := 8) (oi := { dst := some 15, op := Op.binOp BinOp.gtr 3 (Operand.tmp 14) (Operand.const (Value.int IntKind.i64 3)) 3, type := 4, pos := "ref.go:253", after := #[{ on := 7, ground := Ground.data }], guard := none }) (v := ?_) rfl (by kernel_rfl) (by kernel_rfl) (by kernel_rfl) (by kernel_rfl) (fun _ _ _ h => h) (Or.inl ⟨by rfl, ?_⟩) ?_
  rotate_left
  · (intro w hE; have a0 := cellb a0 hE; (try dsimp only); go_simp); (try with_reducible rfl)
  try simp only [Act.put, List.setIfInBounds_toArray, List.set_cons_zero, List.set_cons_succ]
  refine wpAnyE_call (i := 4) (oi := { dst := some 11, op := Op.call { callee := Callee.value (Operand.func 17), args := #[Operand.tmp 10, Operand.const (Value.int IntKind.i64 12)], argTypes := #[4, 3] }, type := 3, pos := "ref.go:253", after := #[{ on := 3, ground := Ground.data }], guard := none }) (fun w hE => ofPure (T1.out w)) rfl (by kernel_rfl) (by kernel_rfl) (by kernel_rfl) (by kernel_rfl) (fun _ _ _ h => h) (by rfl) (fun w hE => by (try dsimp only); go_simp) ?_
  try simp only [Act.put, List.setIfInBounds_toArray, List.set_cons_zero, List.set_cons_succ]
  refine wpAnyE_call (i := 9) (oi := { dst := some 16, op := Op.call { callee := Callee.value (Operand.func 17), args := #[Operand.tmp 15, Operand.const (Value.int IntKind.i64 5)], argTypes := #[4, 3] }, type := 3, pos := "ref.go:253", after := #[{ on := 8, ground := Ground.data }, { on := 4, ground := Ground.chain }], guard := none }) (fun w hE => ofPure (T2.out w)) rfl (by kernel_rfl) (by kernel_rfl) (by kernel_rfl) (by kernel_rfl) (fun _ _ _ h => h) (by rfl) (fun w hE => by (try dsimp only); go_simp) ?_
  try simp only [Act.put, List.setIfInBounds_toArray, List.set_cons_zero, List.set_cons_succ]
  refine wpAnyE_one (i := 10) (o := { dst := some 17, op := Op.buildSlice 42 2 #[(0, Operand.tmp 11), (1, Operand.tmp 16)], type := 42, pos := "ref.go:253", after := #[{ on := 4, ground := Ground.data }, { on := 9, ground := Ground.data }], guard := none }) (by kernel_rfl) rfl (fun wy1 hE K hK => ?_)
  have a0 := cellb a0 hE
  have i1 := i1.carry hE
  have hbz1 := bthen hbz hE
  clear hE
  go_simp
  obtain ⟨wx1, hwz⟩ : ∃ v, v = wy1.alloc (Obj.cells #[.int .i64 e1, .int .i64 e2] 3) := ⟨_, rfl⟩
  rw [← hwz]
  have hl : Below wy1.heap.size wy1 wx1 := by rw [hwz]; exact below_new _ _
  have hcz1 := bthen hbz1 hl
  have iN : BlkI wx1 wy1.heap.size 3 [e1, e2] := by rw [hwz]; exact Blk.new _ _ _
  generalize wy1.heap.size = G at iN ⊢
  have a0 := cellb a0 hl
  have i1 := i1.carry hl
  clear hwz
  refine hK _ _ (fun _ => hl) ?_
  clear hK K hl
  try simp only [Act.put, List.setIfInBounds_toArray, List.set_cons_zero, List.set_cons_succ]
  refine wpAnyE_call (i := 11) (oi := { dst := some 18, op := Op.call { callee := Callee.value (Operand.func 16), args := #[Operand.tmp 17], argTypes := #[42] }, type := 3, pos := "ref.go:253", after := #[{ on := 10, ground := Ground.data }, { on := 9, ground := Ground.chain }], guard := none }) (fun w hE => ofPure (TF.out _ w ((BlkI.ints iN rfl).carry hE))) rfl (by kernel_rfl) (by kernel_rfl) (by kernel_rfl) (by kernel_rfl) (fun _ _ _ h => h) (by rfl) (fun w hE => by (try dsimp only); go_simp) ?_
  try simp only [Act.put, List.setIfInBounds_toArray, List.set_cons_zero, List.set_cons_succ]
  refine wpAnyE_take (i := 12) (oi := { dst := some 3, op := Op.assign (Operand.tmp 18), type := 3, pos := "ref.go:253", after := #[{ on := 11, ground := Ground.data }, { on := 11, ground := Ground.chain }, { on := 0, ground := Ground.phase }, { on := 1, ground := Ground.phase }, { on := 2, ground := Ground.phase }, { on := 3, ground := Ground.phase }, { on := 4, ground := Ground.phase }, { on := 5, ground := Ground.phase }, { on := 6, ground := Ground.phase }, { on := 7, ground := Ground.phase }, { on := 8, ground := Ground.phase }, { on := 9, ground := Ground.phase }, { on := 10, ground := Ground.phase }, { on := 11, ground := Ground.phase }], guard := none }) (v := ?_) rfl (by kernel_rfl) (by kernel_rfl) (by kernel_rfl) (by kernel_rfl) (fun _ _ _ h => h) (Or.inl ⟨by rfl, ?_⟩) ?_
  rotate_left
  · (intro w hE; have a0 := cellb a0 hE; (try dsimp only); go_simp); (try with_reducible rfl)
  try simp only [Act.put, List.setIfInBounds_toArray, List.set_cons_zero, List.set_cons_succ]
  refine wpAnyE_done (by kernel_rfl) (fun wy2 hE => ?_) _
  have hbz2 := bthen hcz1 hE
  have a0 := cellb a0 hE
  have i1 := i1.carry hE
  clear hE
  have hB := hbz2
  obtain ⟨W5, hW5⟩ : ∃ v, v = wy2 := ⟨_, rfl⟩
  rw [← hW5] at hB i1 ⊢
  clear hW5 a0
  clear T1 T2 TF
  by_cases he : eN = 0
  · subst he
    have hE := HE.out
    rw [orE, if_pos rfl] at hE
    have HE2 := Lib.hid hE
    clear HE hE
    go_wp2_with fail
    go_loopw [4] (fun i wr => ∃ k : Nat, k ≤ n ∧ i = .int .i64 k ∧ firstE ((ls.map brE).take k) = 0 ∧ Blk wr w.heap.size 24 [.slice a n cp] ∧ Below w.heap.size w wr) (fun i _ => n - (intOf i).toNat)
    case atStart => exact ⟨0, by omega, rfl, rfl, i1, hB⟩
    case round =>
      clear hB i1
      obtain ⟨k, hk, rfl, hf, i1, hB⟩ := hrel
      have a0 := i1.cell (j := 0) (v := .slice a n cp) rfl
      by_cases hlt : k < n
      · obtain ⟨b, off, x, rfl, hx, c0, c1⟩ := HC.out k hlt
        have c0 := cellb c0 hB
        have c1 := cellb c1 hB
        have hlm : k < (ls.map brE).length := by rw [List.length_map, ← HN.out]; exact hlt
        have hs := firstE_take_succ (ls.map brE) k hlm hf
        have hxv : (ls.map brE)[k]?.getD 0 = brE x := by rw [List.getElem?_map, hx]; rfl
        rw [hxv, brE] at hs
        obtain ⟨L, C⟩ := x
        simp only at c0 c1 hs
        have R1 := Lib.hid (fun W => CheckRange_any L 0 50 W)
        have R2 := Lib.hid (fun W => CheckRange_any C 0 2000 W)
        have R3 := Lib.hid (fun W => WhenR_any (L == 0 && C == 0) 6 W)
        generalize hbb : (L == 0 && C == 0) = bb at R3 hs
        generalize withinE L 0 50 = s1 at R1 hs
        generalize withinE C 0 2000 = s2 at R2 hs
        generalize whenE bb 6 = s3 at R3 hs
        have RF := Lib.hid (fun (u : Value) (W : World) (h : Ints W u [s1, s2, s3]) => FirstR_any u [s1, s2, s3] W (by simp) h)
        generalize firstE [s1, s2, s3] = px at RF hs
        have HS := Lib.hid hs
        have HBB := Lib.hid hbb
        have d1 : (k : Int) < n := by omega
        clear hx hf hs hxv hbb
        go_upto_region 8 with fail
        obtain ⟨W6, hW6⟩ : ∃ v, v = World.alloc wr (Obj.cells #[.int .i64 L, .int .i64 C] 36) := ⟨_, rfl⟩
        have kW6 : Below wr.heap.size wr W6 := by rw [hW6]; exact below_new _ _
        have iW6 : Blk W6 (wr.heap.size) 36 [.int .i64 L, .int .i64 C] := by rw [hW6]; exact Blk.new _ _ _
        have sW6 : W6.heap.size = wr.heap.size + 1 := by rw [hW6]; simp
        rw [← hW6]
        clear hW6
        have b0 := iW6.cell (j := 0) (v := .int .i64 L) rfl
        have b1 := iW6.cell (j := 1) (v := .int .i64 C) rfl
        replace i1 := i1.carry kW6
        replace hB := bthen hB kW6
        obtain ⟨B6, hB6⟩ : ∃ B, B = wr.heap.size := ⟨_, rfl⟩
        rw [← hB6] at b0 b1 ⊢
        clear kW6 iW6 sW6 hB6 c0 c1 a0
        go_cut [6] from 34 to 50 (fun u6 wn => u6 = .int .i64 px ∧ Blk wn w.heap.size 24 [.slice (some ⟨b, off, none⟩) n cp] ∧ Below w.heap.size w wn)
        case first =>
          by_cases hL : L = 0
          · subst hL
            obtain rfl : (C == 0) = bb := by rw [← HBB.out]; simp
            clear HBB
            refine wp_region_E 99 (by kernel_rfl) ?_
            obtain ⟨wz, hwz⟩ : ∃ v, v = W6.drew := ⟨_, rfl⟩
            rw [← hwz]
            have hlz : Below W6.heap.size W6 wz := by rw [hwz]; exact (Below.refl _ _).drew
            have hbz := bthen hB hlz
            have b0 := cellb b0 hlz
            have b1 := cellb b1 hlz
            have i1 := i1.carry hlz
            clear hwz hlz
            refine wpAnyE_take (i := 0) (oi := { dst := some 34, op := Op.fieldAddr 36 (Operand.tmp 5) 0, type := 0, pos := "ref.go:258", after := #[], guard := none }) (v := ?_) rfl (by kernel_rfl) (by kernel_rfl) (by kernel_rfl) (by kernel_rfl) (fun _ _ _ h => h) (Or.inl ⟨by rfl, ?_⟩) ?_
            rotate_left
            · (intro w hE; have b0 := cellb b0 hE; have b1 := cellb b1 hE; (try dsimp only); go_simp); (try with_reducible rfl)
            try simp only [Act.put, List.setIfInBounds_toArray, List.set_cons_zero, List.set_cons_succ]
            refine wpAnyE_take (i := 1) (oi := { dst := some 35, op := Op.load 3 (Operand.tmp 34), type := 3, pos := "ref.go:258", after := #[{ on := 0, ground := Ground.data }], guard := none }) (v := ?_) rfl (by kernel_rfl) (by kernel_rfl) (by kernel_rfl) (by kernel_rfl) (fun _ _ _ h => h) (Or.inl ⟨by rfl, ?_⟩) ?_
            rotate_left
            · (intro w hE; have b0 := cellb b0 hE; have b1 := cellb b1 hE; (try dsimp only); go_simp); (try with_reducible rfl)
            try simp only [Act.put, List.setIfInBounds_toArray, List.set_cons_zero, List.set_cons_succ]
            refine wpAnyE_take (i := 3) (oi := { dst := some 37, op := Op.fieldAddr 36 (Operand.tmp 5) 1, type := 0, pos := "ref.go:258", after := #[], guard := none }) (v := ?_) rfl (by kernel_rfl) (by kernel_rfl) (by kernel_rfl) (by kernel_rfl) (fun _ _ _ h => h) (Or.inl ⟨by rfl, ?_⟩) ?_
            rotate_left
            · (intro w hE; have b0 := cellb b0 hE; have b1 := cellb b1 hE; (try dsimp only); go_simp); (try with_reducible rfl)
            try simp only [Act.put, List.setIfInBounds_toArray, List.set_cons_zero, List.set_cons_succ]
            refine wpAnyE_take (i := 4) (oi := { dst := some 38, op := Op.load 3 (Operand.tmp 37), type := 3, pos := "ref.go:258", after := #[{ on := 3, ground := Ground.data }], guard := none }) (v := ?_) rfl (by kernel_rfl) (by kernel_rfl) (by kernel_rfl) (by kernel_rfl) (fun _ _ _ h => h) (Or.inl ⟨by rfl, ?_⟩) ?_
            rotate_left
            · (intro w hE; have b0 := cellb b0 hE; have b1 := cellb b1 hE; (try dsimp only); go_simp); (try with_reducible rfl)
            try simp only [Act.put, List.setIfInBounds_toArray, List.set_cons_zero, List.set_cons_succ]
            refine wpAnyE_take (i := 6) (oi := { dst := some 40, op := Op.fieldAddr 36 (Operand.tmp 5) 0, type := 0, pos := "ref.go:258", after := #[], guard := none }) (v := ?_) rfl (by kernel_rfl) (by kernel_rfl) (by kernel_rfl) (by kernel_rfl) (fun _ _ _ h => h) (Or.inl ⟨by rfl, ?_⟩) ?_
            rotate_left
            · (intro w hE; have b0 := cellb b0 hE; have b1 := cellb b1 hE; (try dsimp only); go_simp); (try with_reducible rfl)
            try simp only [Act.put, List.setIfInBounds_toArray, List.set_cons_zero, List.set_cons_succ]
            refine wpAnyE_take (i := 7) (oi := { dst := some 41, op := Op.load 3 (Operand.tmp 40), type := 3, pos := "ref.go:258", after := #[{ on := 6, ground := Ground.data }], guard := none }) (v := ?_) rfl (by kernel_rfl) (by kernel_rfl) (by kernel_rfl) (by kernel_rfl) (fun _ _ _ h => h) (Or.inl ⟨by rfl, ?_⟩) ?_
            rotate_left
            · (intro w hE; have b0 := cellb b0 hE; have b1 := cellb b1 hE; (try dsimp only); go_simp); (try with_reducible rfl)
            try simp only [Act.put, List.setIfInBounds_toArray, List.set_cons_zero, List.set_cons_succ]
            refine wpAnyE_take (i := 8) (oi := { dst := some 42, op := Op.binOp BinOp.eql 3 (Operand.tmp 41) (Operand.const (Value.int IntKind.i64 0)) 3, type := 4, pos := "ref.go:258", after := #[{ on := 7, ground := Ground.data }], guard := none }) (v := ?_) rfl (by kernel_rfl) (by kernel_rfl) (by kernel_rfl) (by kernel_rfl) (fun _ _ _ h => h) (Or.inl ⟨by rfl, ?_⟩) ?_
            rotate_left
            · (intro w hE; have b0 := cellb b0 hE; have b1 := cellb b1 hE; (try dsimp only); go_simp); (try with_reducible rfl)
            try simp only [Act.put, List.setIfInBounds_toArray, List.set_cons_zero, List.set_cons_succ]
            refine wpAnyE_call (i := 2) (oi := { dst := some 36, op := Op.call { callee := Callee.value (Operand.func 18), args := #[Operand.tmp 35, Operand.const (Value.int IntKind.i64 0), Operand.const (Value.int IntKind.i64 50)], argTypes := #[3, 3, 3] }, type := 3, pos := "ref.go:258", after := #[{ on := 1, ground := Ground.data }], guard := none }) (fun w hE => ofPure (R1.out w)) rfl (by kernel_rfl) (by kernel_rfl) (by kernel_rfl) (by kernel_rfl) (fun _ _ _ h => h) (by rfl) (fun w hE => by (try dsimp only); go_simp) ?_
            try simp only [Act.put, List.setIfInBounds_toArray, List.set_cons_zero, List.set_cons_succ]
            refine wpAnyE_call (i := 5) (oi := { dst := some 39, op := Op.call { callee := Callee.value (Operand.func 18), args := #[Operand.tmp 38, Operand.const (Value.int IntKind.i64 0), Operand.const (Value.int IntKind.i64 2000)], argTypes := #[3, 3, 3] }, type := 3, pos := "ref.go:258", after := #[{ on := 4, ground := Ground.data }, { on := 2, ground := Ground.chain }], guard := none }) (fun w hE => ofPure (R2.out w)) rfl (by kernel_rfl) (by kernel_rfl) (by kernel_rfl) (by kernel_rfl) (fun _ _ _ h => h) (by rfl) (fun w hE => by (try dsimp only); go_simp) ?_
            try simp only [Act.put, List.setIfInBounds_toArray, List.set_cons_zero, List.set_cons_succ]
            refine wpAnyE_take (i := 9) (oi := { dst := some 43, op := Op.move (Operand.tmp 42), type := 4, pos := "ref.go:258", after := #[{ on := 8, ground := Ground.data }, { on := 5, ground := Ground.chain }], guard := none }) (v := ?_) rfl (by kernel_rfl) (by kernel_rfl) (by kernel_rfl) (by kernel_rfl) (fun _ _ _ h => h) (Or.inl ⟨by rfl, ?_⟩) ?_
            rotate_left
            · (intro w hE; have b0 := cellb b0 hE; have b1 := cellb b1 hE; (try dsimp only); go_simp); (try with_reducible rfl)
            try simp only [Act.put, List.setIfInBounds_toArray, List.set_cons_zero, List.set_cons_succ]
            refine wpAnyE_take (i := 10) (oi := { dst := some 44, op := Op.fieldAddr 36 (Operand.tmp 5) 1, type := 0, pos := "ref.go:258", after := #[{ on := 9, ground := Ground.guard }], guard := some (9, true) }) (v := ?_) rfl (by kernel_rfl) (by kernel_rfl) (by kernel_rfl) (by kernel_rfl) (fun _ _ _ h => h) (Or.inl ⟨by rfl, ?_⟩) ?_
            rotate_left
            · (intro w hE; have b0 := cellb b0 hE; have b1 := cellb b1 hE; (try dsimp only); go_simp); (try with_reducible rfl)
            try simp only [Act.put, List.setIfInBounds_toArray, List.set_cons_zero, List.set_cons_succ]
            refine wpAnyE_take (i := 11) (oi := { dst := some 45, op := Op.load 3 (Operand.tmp 44), type := 3, pos := "ref.go:258", after := #[{ on := 10, ground := Ground.data }, { on := 9, ground := Ground.guard }], guard := some (9, true) }) (v := ?_) rfl (by kernel_rfl) (by kernel_rfl) (by kernel_rfl) (by kernel_rfl) (fun _ _ _ h => h) (Or.inl ⟨by rfl, ?_⟩) ?_
            rotate_left
            · (intro w hE; have b0 := cellb b0 hE; have b1 := cellb b1 hE; (try dsimp only); go_simp); (try with_reducible rfl)
            try simp only [Act.put, List.setIfInBounds_toArray, List.set_cons_zero, List.set_cons_succ]
            refine wpAnyE_take (i := 12) (oi := { dst := some 46, op := Op.binOp BinOp.eql 3 (Operand.tmp 45) (Operand.const (Value.int IntKind.i64 0)) 3, type := 4, pos := "ref.go:258", after := #[{ on := 11, ground := Ground.data }, { on := 9, ground := Ground.guard }], guard := some (9, true) }) (v := ?_) rfl (by kernel_rfl) (by kernel_rfl) (by kernel_rfl) (by kernel_rfl) (fun _ _ _ h => h) (Or.inl ⟨by rfl, ?_⟩) ?_
            rotate_left
            · (intro w hE; have b0 := cellb b0 hE; have b1 := cellb b1 hE; (try dsimp only); go_simp); (try with_reducible rfl)
            try simp only [Act.put, List.setIfInBounds_toArray, List.set_cons_zero, List.set_cons_succ]
            refine wpAnyE_take (i := 13) (oi := { dst := some 47, op := Op.pick (Operand.tmp 43) (Operand.tmp 46) (Operand.const (Value.bool false)), type := 4, pos := "ref.go:258", after := #[{ on := 9, ground := Ground.data }, { on := 12, ground := Ground.data }], guard := none }) (v := ?_) rfl (by kernel_rfl) (by kernel_rfl) (by kernel_rfl) (by kernel_rfl) (fun _ _ _ h => h) (Or.inl ⟨by rfl, ?_⟩) ?_
            rotate_left
            · (intro w hE; have b0 := cellb b0 hE; have b1 := cellb b1 hE; (try dsimp only); go_simp); (try with_reducible rfl)
            try simp only [Act.put, List.setIfInBounds_toArray, List.set_cons_zero, List.set_cons_succ]
            refine wpAnyE_call (i := 14) (oi := { dst := some 48, op := Op.call { callee := Callee.value (Operand.func 17), args := #[Operand.tmp 47, Operand.const (Value.int IntKind.i64 6)], argTypes := #[4, 3] }, type := 3, pos := "ref.go:258", after := #[{ on := 13, ground := Ground.data }, { on := 9, ground := Ground.chain }], guard := none }) (fun w hE => ofPure (R3.out w)) rfl (by kernel_rfl) (by kernel_rfl) (by kernel_rfl) (by kernel_rfl) (fun _ _ _ h => h) (by rfl) (fun w hE => by (try dsimp only); go_simp) ?_
            try simp only [Act.put, List.setIfInBounds_toArray, List.set_cons_zero, List.set_cons_succ]
            refine wpAnyE_one (i := 15) (o := { dst := some 49, op := Op.buildSlice 42 3 #[(0, Operand.tmp 36), (1, Operand.tmp 39), (2, Operand.tmp 48)], type := 42, pos := "ref.go:258", after := #[{ on := 2, ground := Ground.data }, { on := 5, ground := Ground.data }, { on := 14, ground := Ground.data }], guard := none }) (by kernel_rfl) rfl (fun wy1 hE K hK => ?_)
            have b0 := cellb b0 hE
            have b1 := cellb b1 hE
            have i1 := i1.carry hE
            have hbz1 := bthen hbz hE
            clear hE
            go_simp
            obtain ⟨wx1, hwz⟩ : ∃ v, v = wy1.alloc (Obj.cells #[.int .i64 s1, .int .i64 s2, .int .i64 s3] 3) := ⟨_, rfl⟩
            rw [← hwz]
            have hl : Below wy1.heap.size wy1 wx1 := by rw [hwz]; exact below_new _ _
            have hcz1 := bthen hbz1 hl
            have iN : BlkI wx1 wy1.heap.size 3 [s1, s2, s3] := by rw [hwz]; exact Blk.new _ _ _
            generalize wy1.heap.size = G at iN ⊢
            have b0 := cellb b0 hl
            have b1 := cellb b1 hl
            have i1 := i1.carry hl
            clear hwz
            refine hK _ _ (fun _ => hl) ?_
            clear hK K hl
            try simp only [Act.put, List.setIfInBounds_toArray, List.set_cons_zero, List.set_cons_succ]
            refine wpAnyE_call (i := 16) (oi := { dst := some 50, op := Op.call { callee := Callee.value (Operand.func 16), args := #[Operand.tmp 49], argTypes := #[42] }, type := 3, pos := "ref.go:258", after := #[{ on := 15, ground := Ground.data }, { on := 14, ground := Ground.chain }], guard := none }) (fun w hE => ofPure (RF.out _ w ((BlkI.ints iN rfl).carry hE))) rfl (by kernel_rfl) (by kernel_rfl) (by kernel_rfl) (by kernel_rfl) (fun _ _ _ h => h) (by rfl) (fun w hE => by (try dsimp only); go_simp) ?_
            try simp only [Act.put, List.setIfInBounds_toArray, List.set_cons_zero, List.set_cons_succ]
            refine wpAnyE_take (i := 17) (oi := { dst := some 6, op := Op.assign (Operand.tmp 50), type := 3, pos := "ref.go:258", after := #[{ on := 16, ground := Ground.data }, { on := 16, ground := Ground.chain }, { on := 0, ground := Ground.phase }, { on := 1, ground := Ground.phase }, { on := 2, ground := Ground.phase }, { on := 3, ground := Ground.phase }, { on := 4, ground := Ground.phase }, { on := 5, ground := Ground.phase }, { on := 6, ground := Ground.phase }, { on := 7, ground := Ground.phase }, { on := 8, ground := Ground.phase }, { on := 9, ground := Ground.phase }, { on := 10, ground := Ground.phase }, { on := 11, ground := Ground.phase }, { on := 12, ground := Ground.phase }, { on := 13, ground := Ground.phase }, { on := 14, ground := Ground.phase }, { on := 15, ground := Ground.phase }, { on := 16, ground := Ground.phase }], guard := none }) (v := ?_) rfl (by kernel_rfl) (by kernel_rfl) (by kernel_rfl) (by kernel_rfl) (fun _ _ _ h => h) (Or.inl ⟨by rfl, ?_⟩) ?_
            rotate_left
            · (intro w hE; have b0 := cellb b0 hE; have b1 := cellb b1 hE; (try dsimp only); go_simp); (try with_reducible rfl)
            try simp only [Act.put, List.setIfInBounds_toArray, List.set_cons_zero, List.set_cons_succ]
            refine wpAnyE_done (by kernel_rfl) (fun wy2 hE => ?_) _
            have hbz2 := bthen hcz1 hE
            have b0 := cellb b0 hE
            have b1 := cellb b1 hE
            have i1 := i1.carry hE
            clear hE
            have hB := hbz2
            go_wp2_with fail
            go_meet
            exact ⟨rfl, i1, hB⟩
          · have hLb : (L == 0) = false := by rw [beq_eq_false_iff_ne]; exact hL
            obtain rfl : bb = false := by rw [← HBB.out, hLb]; rfl
            clear HBB
            refine wp_region_E 99 (by kernel_rfl) ?_
            obtain ⟨wz, hwz⟩ : ∃ v, v = W6.drew := ⟨_, rfl⟩
            rw [← hwz]
            have hlz : Below W6.heap.size W6 wz := by rw [hwz]; exact (Below.refl _ _).drew
            have hbz := bthen hB hlz
            have b0 := cellb b0 hlz
            have b1 := cellb b1 hlz
            have i1 := i1.carry hlz
            clear hwz hlz
            refine wpAnyE_take (i := 0) (oi := { dst := some 34, op := Op.fieldAddr 36 (Operand.tmp 5) 0, type := 0, pos := "ref.go:258", after := #[], guard := none }) (v := ?_) rfl (by kernel_rfl) (by kernel_rfl) (by kernel_rfl) (by kernel_rfl) (fun _ _ _ h => h) (Or.inl ⟨by rfl, ?_⟩) ?_
            rotate_left
            · (intro w hE; have b0 := cellb b0 hE; have b1 := cellb b1 hE; (try dsimp only); go_simp); (try with_reducible rfl)
            try simp only [Act.put, List.setIfInBounds_toArray, List.set_cons_zero, List.set_cons_succ]
            refine wpAnyE_take (i := 1) (oi := { dst := some 35, op := Op.load 3 (Operand.tmp 34), type := 3, pos := "ref.go:258", after := #[{ on := 0, ground := Ground.data }], guard := none }) (v := ?_) rfl (by kernel_rfl) (by kernel_rfl) (by kernel_rfl) (by kernel_rfl) (fun _ _ _ h => h) (Or.inl ⟨by rfl, ?_⟩) ?_
            rotate_left
            · (intro w hE; have b0 := cellb b0 hE; have b1 := cellb b1 hE; (try dsimp only); go_simp); (try with_reducible rfl)
            try simp only [Act.put, List.setIfInBounds_toArray, List.set_cons_zero, List.set_cons_succ]
            refine wpAnyE_take (i := 3) (oi := { dst := some 37, op := Op.fieldAddr 36 (Operand.tmp 5) 1, type := 0, pos := "ref.go:258", after := #[], guard := none }) (v := ?_) rfl (by kernel_rfl) (by kernel_rfl) (by kernel_rfl) (by kernel_rfl) (fun _ _ _ h => h) (Or.inl ⟨by rfl, ?_⟩) ?_
            rotate_left
            · (intro w hE; have b0 := cellb b0 hE; have b1 := cellb b1 hE; (try dsimp only); go_simp); (try with_reducible rfl)
            try simp only [Act.put, List.setIfInBounds_toArray, List.set_cons_zero, List.set_cons_succ]
            refine wpAnyE_take (i := 4) (oi := { dst := some 38, op := Op.load 3 (Operand.tmp 37), type := 3, pos := "ref.go:258", after := #[{ on := 3, ground := Ground.data }], guard := none }) (v := ?_) rfl (by kernel_rfl) (by kernel_rfl) (by kernel_rfl) (by kernel_rfl) (fun _ _ _ h => h) (Or.inl ⟨by rfl, ?_⟩) ?_
            rotate_left
            · (intro w hE; have b0 := cellb b0 hE; have b1 := cellb b1 hE; (try dsimp only); go_simp); (try with_reducible rfl)
            try simp only [Act.put, List.setIfInBounds_toArray, List.set_cons_zero, List.set_cons_succ]
            refine wpAnyE_take (i := 6) (oi := { dst := some 40, op := Op.fieldAddr 36 (Operand.tmp 5) 0, type := 0, pos := "ref.go:258", after := #[], guard := none }) (v := ?_) rfl (by kernel_rfl) (by kernel_rfl) (by kernel_rfl) (by kernel_rfl) (fun _ _ _ h => h) (Or.inl ⟨by rfl, ?_⟩) ?_
            rotate_left
            · (intro w hE; have b0 := cellb b0 hE; have b1 := cellb b1 hE; (try dsimp only); go_simp); (try with_reducible rfl)
            try simp only [Act.put, List.setIfInBounds_toArray, List.set_cons_zero, List.set_cons_succ]
            refine wpAnyE_take (i := 7) (oi := { dst := some 41, op := Op.load 3 (Operand.tmp 40), type := 3, pos := "ref.go:258", after := #[{ on := 6, ground := Ground.data }], guard := none }) (v := ?_) rfl (by kernel_rfl) (by kernel_rfl) (by kernel_rfl) (by kernel_rfl) (fun _ _ _ h => h) (Or.inl ⟨by rfl, ?_⟩) ?_
            rotate_left
            · (intro w hE; have b0 := cellb b0 hE; have b1 := cellb b1 hE; (try dsimp only); go_simp); (try with_reducible rfl)
            try simp only [Act.put, List.setIfInBounds_toArray, List.set_cons_zero, List.set_cons_succ]
            refine wpAnyE_take (i := 8) (oi := { dst := some 42, op := Op.binOp BinOp.eql 3 (Operand.tmp 41) (Operand.const (Value.int IntKind.i64 0)) 3, type := 4, pos := "ref.go:258", after := #[{ on := 7, ground := Ground.data }], guard := none }) (v := ?_) rfl (by kernel_rfl) (by kernel_rfl) (by kernel_rfl) (by kernel_rfl) (fun _ _ _ h => h) (Or.inl ⟨by rfl, ?_⟩) ?_
            rotate_left
            · (intro w hE; have b0 := cellb b0 hE; have b1 := cellb b1 hE; (try dsimp only); go_simp); (try with_reducible rfl)
            try simp only [Act.put, List.setIfInBounds_toArray, List.set_cons_zero, List.set_cons_succ]
            refine wpAnyE_call (i := 2) (oi := { dst := some 36, op := Op.call { callee := Callee.value (Operand.func 18), args := #[Operand.tmp 35, Operand.const (Value.int IntKind.i64 0), Operand.const (Value.int IntKind.i64 50)], argTypes := #[3, 3, 3] }, type := 3, pos := "ref.go:258", after := #[{ on := 1, ground := Ground.data }], guard := none }) (fun w hE => ofPure (R1.out w)) rfl (by kernel_rfl) (by kernel_rfl) (by kernel_rfl) (by kernel_rfl) (fun _ _ _ h => h) (by rfl) (fun w hE => by (try dsimp only); go_simp) ?_
            try simp only [Act.put, List.setIfInBounds_toArray, List.set_cons_zero, List.set_cons_succ]
            refine wpAnyE_call (i := 5) (oi := { dst := some 39, op := Op.call { callee := Callee.value (Operand.func 18), args := #[Operand.tmp 38, Operand.const (Value.int IntKind.i64 0), Operand.const (Value.int IntKind.i64 2000)], argTypes := #[3, 3, 3] }, type := 3, pos := "ref.go:258", after := #[{ on := 4, ground := Ground.data }, { on := 2, ground := Ground.chain }], guard := none }) (fun w hE => ofPure (R2.out w)) rfl (by kernel_rfl) (by kernel_rfl) (by kernel_rfl) (by kernel_rfl) (fun _ _ _ h => h) (by rfl) (fun w hE => by (try dsimp only); go_simp) ?_
            try simp only [Act.put, List.setIfInBounds_toArray, List.set_cons_zero, List.set_cons_succ]
            refine wpAnyE_take (i := 9) (oi := { dst := some 43, op := Op.move (Operand.tmp 42), type := 4, pos := "ref.go:258", after := #[{ on := 8, ground := Ground.data }, { on := 5, ground := Ground.chain }], guard := none }) (v := ?_) rfl (by kernel_rfl) (by kernel_rfl) (by kernel_rfl) (by kernel_rfl) (fun _ _ _ h => h) (Or.inl ⟨by rfl, ?_⟩) ?_
            rotate_left
            · (intro w hE; have b0 := cellb b0 hE; have b1 := cellb b1 hE; (try dsimp only); go_simp); (try with_reducible rfl)
            try simp only [Act.put, List.setIfInBounds_toArray, List.set_cons_zero, List.set_cons_succ]
            refine wpAnyE_take (i := 10) (oi := { dst := some 44, op := Op.fieldAddr 36 (Operand.tmp 5) 1, type := 0, pos := "ref.go:258", after := #[{ on := 9, ground := Ground.guard }], guard := some (9, true) }) (v := undef) rfl (by kernel_rfl) (by kernel_rfl) (by kernel_rfl) (by kernel_rfl) (fun _ _ _ h => h) (Or.inr (Or.inr ⟨by rfl, rfl⟩)) ?_
            try simp only [Act.put, List.setIfInBounds_toArray, List.set_cons_zero, List.set_cons_succ]
            refine wpAnyE_take (i := 11) (oi := { dst := some 45, op := Op.load 3 (Operand.tmp 44), type := 3, pos := "ref.go:258", after := #[{ on := 10, ground := Ground.data }, { on := 9, ground := Ground.guard }], guard := some (9, true) }) (v := undef) rfl (by kernel_rfl) (by kernel_rfl) (by kernel_rfl) (by kernel_rfl) (fun _ _ _ h => h) (Or.inr (Or.inr ⟨by rfl, rfl⟩)) ?_
            try simp only [Act.put, List.setIfInBounds_toArray, List.set_cons_zero, List.set_cons_succ]
            refine wpAnyE_take (i := 12) (oi := { dst := some 46, op := Op.binOp BinOp.eql 3 (Operand.tmp 45) (Operand.const (Value.int IntKind.i64 0)) 3, type := 4, pos := "ref.go:258", after := #[{ on := 11, ground := Ground.data }, { on := 9, ground := Ground.guard }], guard := some (9, true) }) (v := undef) rfl (by kernel_rfl) (by kernel_rfl) (by kernel_rfl) (by kernel_rfl) (fun _ _ _ h => h) (Or.inr (Or.inr ⟨by rfl, rfl⟩)) ?_
            try simp only [Act.put, List.setIfInBounds_toArray, List.set_cons_zero, List.set_cons_succ]
            refine wpAnyE_take (i := 13) (oi := { dst := some 47, op := Op.pick (Operand.tmp 43) (Operand.tmp 46) (Operand.const (Value.bool false)), type := 4, pos := "ref.go:258", after := #[{ on := 9, ground := Ground.data }, { on := 12, ground := Ground.data }], guard := none }) (v := ?_) rfl (by kernel_rfl) (by kernel_rfl) (by kernel_rfl) (by kernel_rfl) (fun _ _ _ h => h) (Or.inl ⟨by rfl, ?_⟩) ?_
            rotate_left
            · (intro w hE; have b0 := cellb b0 hE; have b1 := cellb b1 hE; (try dsimp only); go_simp); (try with_reducible rfl)
            try simp only [Act.put, List.setIfInBounds_toArray, List.set_cons_zero, List.set_cons_succ]
            refine wpAnyE_call (i := 14) (oi := { dst := some 48, op := Op.call { callee := Callee.value (Operand.func 17), args := #[Operand.tmp 47, Operand.const (Value.int IntKind.i64 6)], argTypes := #[4, 3] }, type := 3, pos := "ref.go:258", after := #[{ on := 13, ground := Ground.data }, { on := 9, ground := Ground.chain }], guard := none }) (fun w hE => ofPure (R3.out w)) rfl (by kernel_rfl) (by kernel_rfl) (by kernel_rfl) (by kernel_rfl) (fun _ _ _ h => h) (by rfl) (fun w hE => by (try dsimp only); go_simp) ?_
            try simp only [Act.put, List.setIfInBounds_toArray, List.set_cons_zero, List.set_cons_succ]
            refine wpAnyE_one (i := 15) (o := { dst := some 49, op := Op.buildSlice 42 3 #[(0, Operand.tmp 36), (1, Operand.tmp 39), (2, Operand.tmp 48)], type := 42, pos := "ref.go:258", after := #[{ on := 2, ground := Ground.data }, { on := 5, ground := Ground.data }, { on := 14, ground := Ground.data }], guard := none }) (by kernel_rfl) rfl (fun wy1 hE K hK => ?_)
            have b0 := cellb b0 hE
            have b1 := cellb b1 hE
            have i1 := i1.carry hE
            have hbz1 := bthen hbz hE
            clear hE
            go_simp
            obtain ⟨wx1, hwz⟩ : ∃ v, v = wy1.alloc (Obj.cells #[.int .i64 s1, .int .i64 s2, .int .i64 s3] 3) := ⟨_, rfl⟩
            rw [← hwz]
            have hl : Below wy1.heap.size wy1 wx1 := by rw [hwz]; exact below_new _ _
            have hcz1 := bthen hbz1 hl
            have iN : BlkI wx1 wy1.heap.size 3 [s1, s2, s3] := by rw [hwz]; exact Blk.new _ _ _
            generalize wy1.heap.size = G at iN ⊢
            have b0 := cellb b0 hl
            have b1 := cellb b1 hl
            have i1 := i1.carry hl
            clear hwz
            refine hK _ _ (fun _ => hl) ?_
            clear hK K hl
            try simp only [Act.put, List.setIfInBounds_toArray, List.set_cons_zero, List.set_cons_succ]
            refine wpAnyE_call (i := 16) (oi := { dst := some 50, op := Op.call { callee := Callee.value (Operand.func 16), args := #[Operand.tmp 49], argTypes := #[42] }, type := 3, pos := "ref.go:258", after := #[{ on := 15, ground := Ground.data }, { on := 14, ground := Ground.chain }], guard := none }) (fun w hE => ofPure (RF.out _ w ((BlkI.ints iN rfl).carry hE))) rfl (by kernel_rfl) (by kernel_rfl) (by kernel_rfl) (by kernel_rfl) (fun _ _ _ h => h) (by rfl) (fun w hE => by (try dsimp only); go_simp) ?_
            try simp only [Act.put, List.setIfInBounds_toArray, List.set_cons_zero, List.set_cons_succ]
            refine wpAnyE_take (i := 17) (oi := { dst := some 6, op := Op.assign (Operand.tmp 50), type := 3, pos := "ref.go:258", after := #[{ on := 16, ground := Ground.data }, { on := 16, ground := Ground.chain }, { on := 0, ground := Ground.phase }, { on := 1, ground := Ground.phase }, { on := 2, ground := Ground.phase }, { on := 3, ground := Ground.phase }, { on := 4, ground := Ground.phase }, { on := 5, ground := Ground.phase }, { on := 6, ground := Ground.phase }, { on := 7, ground := Ground.phase }, { on := 8, ground := Ground.phase }, { on := 9, ground := Ground.phase }, { on := 10, ground := Ground.phase }, { on := 11, ground := Ground.phase }, { on := 12, ground := Ground.phase }, { on := 13, ground := Ground.phase }, { on := 14, ground := Ground.phase }, { on := 15, ground := Ground.phase }, { on := 16, ground := Ground.phase }], guard := none }) (v := ?_) rfl (by kernel_rfl) (by kernel_rfl) (by kernel_rfl) (by kernel_rfl) (fun _ _ _ h => h) (Or.inl ⟨by rfl, ?_⟩) ?_
            rotate_left
            · (intro w hE; have b0 := cellb b0 hE; have b1 := cellb b1 hE; (try dsimp only); go_simp); (try with_reducible rfl)
            try simp only [Act.put, List.setIfInBounds_toArray, List.set_cons_zero, List.set_cons_succ]
            refine wpAnyE_done (by kernel_rfl) (fun wy2 hE => ?_) _
            have hbz2 := bthen hcz1 hE
            have b0 := cellb b0 hE
            have b1 := cellb b1 hE
            have i1 := i1.carry hE
            clear hE
            have hB := hbz2
            go_wp2_with fail
            go_meet
            exact ⟨rfl, i1, hB⟩
        case rest =>
          obtain ⟨rfl, i1, hB⟩ := hcut
          by_cases hz : px = 0
          · go_wp2
            go_roundw
            case rel => exact ⟨k + 1, by omega, by go_num, by rw [HS.out]; exact hz, i1, hB⟩
            case measure => simp [intOf]; omega
          · have hE3 : E = px := by
              have h9 := firstE_of_take (ls.map brE) (k + 1) (by rw [HS.out]; exact hz)
              rw [HE2.out, h9, HS.out]
            have HE3 := Lib.hid hE3
            have z : (px == 0) = false := by rw [beq_eq_false_iff_ne]; exact hz
            clear hE3
            go_wp2
            go_ret
            exact ⟨ret_int HE3.out.symm, hB⟩
      · obtain rfl : k = n := by omega
        rw [List.take_of_length_le (by rw [List.length_map, ← HN.out]; exact Nat.le_refl _)] at hf
        have hE3 : E = 0 := by rw [HE2.out]; exact hf
        have HE3 := Lib.hid hE3
        clear hf hE3
        go_wp2
        go_ret
        exact ⟨ret_int HE3.out.symm, hB⟩
  · have z : (eN == 0) = false := by rw [beq_eq_false_iff_ne]; exact he
    have HNE := Lib.hid he
    go_wp2_with fail
    go_ret
    exact ⟨ret_int (by rw [HE.out, orE, if_neg HNE.out]), hB⟩

/-- the reference's way to ask whether a filter is tuned. -/
def tunedR (ls : List (Int × Int)) (h : Int) : Bool := ls.any fun x => wrap64 (wrap64 (h * h) * x.1) == x.2
theorem tuned_same {ls : List (Int × Int)} {h : Int} (hf : fltE ls = 0) (hh : 0 ≤ h ∧ h ≤ 13) : tunedR ls h = tunedB ls h := by
  obtain ⟨_, hb⟩ := fltE_zero hf
  unfold tunedR tunedB
  rw [Bool.eq_iff_iff]
  simp only [List.any_eq_true]
  have key : ∀ x ∈ ls, (wrap64 (wrap64 (h * h) * x.1) == x.2) = (leftB x h == 0) := fun x hx => by
    obtain ⟨e1, e2⟩ := left_bd (hb x hx) hh
    obtain ⟨h1, h2⟩ := brE_zero (hb x hx)
    have a1 := mulBd (x := h) (y := h) (A := 13) (B := 13) (by omega) (by omega)
    have a0 : 0 ≤ h * h := Int.mul_nonneg hh.1 hh.1
    rw [e1]
    generalize h * h = q at a1 a0 ⊢
    have b1 := mulBd (x := q) (y := x.1) (A := 169) (B := 50) (by omega) (by omega)
    rw [wrapSm (x := q) (by omega), wrapSm (x := q * x.1) (by omega)]
    generalize q * x.1 = z at b1 ⊢
    by_cases c : z = x.2
    · have : x.2 - z = 0 := by omega
      simp [c]
    · have : ¬ x.2 - z = 0 := by omega
      rw [beq_eq_false_iff_ne.2 c, beq_eq_false_iff_ne.2 this]
  constructor
  · rintro ⟨x, hx, h⟩; exact ⟨x, hx, by rw [← key x hx]; exact h⟩
  · rintro ⟨x, hx, h⟩; exact ⟨x, hx, by rw [key x hx]; exact h⟩
end

section
set_option linter.unusedSimpArgs false
set_option linter.unusedVariables false
open Go.RowKit

def Big (x : Int) : Prop := -1000000000000000 ≤ x ∧ x ≤ 1000000000000000
def gcdI (a b : Int) : Int := ((Nat.gcd a.natAbs b.natAbs : Nat) : Int)
theorem lowQ_pos {n d : Int} (hd : 0 < d) : lowQ n d = (n.tdiv (gcdI n d), d.tdiv (gcdI n d)) := by
  unfold lowQ lowA gcdI
  rw [if_neg (by omega)]
theorem lowQ_neg {n d : Int} (hd : d < 0) : lowQ n d = ((-n).tdiv (gcdI (-n) (-d)), (-d).tdiv (gcdI (-n) (-d))) := by
  unfold lowQ lowA gcdI
  rw [if_pos hd, Int.natAbs_neg, Int.natAbs_neg, Int.tdiv_neg, Int.tdiv_neg, Int.neg_tdiv, Int.neg_tdiv]
theorem gcd_pos {n d : Int} (hd : d ≠ 0) : 0 < gcdI n d := by
  unfold gcdI
  have : 0 < Nat.gcd n.natAbs d.natAbs := Nat.gcd_pos_of_pos_right _ (by omega)
  omega
theorem tdiv_small {x g : Int} (hx : Big x) : IntKind.i64.wrap (x.tdiv g) = x.tdiv g := by
  have h2 : (x.tdiv g).natAbs ≤ x.natAbs := by rw [Int.natAbs_tdiv]; exact Nat.div_le_self _ _
  unfold Big at hx
  generalize x.tdiv g = z at h2 ⊢
  exact IntWalk.i64_in _ (by omega)
theorem sus_big {ls : List (Int × Int)} {h : Int} (hS : SusOk ls h) : Big (susL ls h).1 ∧ Big (susL ls h).2 ∧ (susL ls h).2 ≠ 0 := hS
end

section
set_option linter.unusedSimpArgs false
set_option linter.unusedVariables false
open Go.RowKit

end

section
set_option linter.unusedSimpArgs false
set_option linter.unusedVariables false
open Go.RowKit

theorem Pairs.of_blkT {w : World} {G : Nat} {T : TypeId} {ls : List (Int × Int)} {cap : Nat} {vs : List Value} (h : Blk w G T vs) (ht : vs.take (ls.length * 2) = (flat2 ls).map (Value.int .i64)) (hc : ls.length ≤ cap) : Pairs w (.slice (some ⟨G, 0, none⟩) ls.length cap) ls := by
  have hg : ∀ j y, (flat2 ls)[j]? = some y → vs[j]? = some (Value.int .i64 y) := fun j y hj => by
    have hlt : j < ls.length * 2 := by have := (List.getElem?_eq_some_iff.1 hj).1; rwa [flat2_length] at this
    have h2 : (vs.take (ls.length * 2))[j]? = some (.int .i64 y) := by rw [ht, List.getElem?_map, hj]; rfl
    rwa [List.getElem?_take_of_lt hlt] at h2
  refine ⟨_, cap, rfl, hc, fun _ => ⟨G, 0, rfl, fun j x hj => ?_⟩⟩
  obtain ⟨h0, h1⟩ := flat2_get ls j x hj
  rw [Nat.zero_add]
  exact ⟨h.cell (hg _ _ h0), h.cell (hg _ _ h1)⟩
theorem Pairs.none' (w : World) : Pairs w (.slice none 0 0) [] := Pairs.nil' w none 0

def tapE (E : Int) : Int := bif E == 0 then 0 else 4
def lsIf (E : Int) (L : List (Int × Int)) : List (Int × Int) := bif E == 0 then L else []
theorem take_setP (vs : List Value) (F : List Int) (m j : Nat) (x : Int) (h : vs.take m = F.map (Value.int .i64)) : (vs.set j (.int .i64 x)).take m = (F.set j x).map (Value.int .i64) := by
  rw [List.take_set, h, List.map_set]

theorem neqBranchR (a b c d : Int) (W : World) : Sem.run Tryz.prog (binOp .neq 36 (.agg #[.int .i64 a, .int .i64 b]) (.agg #[.int .i64 c, .int .i64 d])) W = .ok (.bool (!(a == c && b == d))) W := by
  go_simp
  by_cases h1 : a = c <;> by_cases h2 : b = d <;> simp [h1, h2]
/-- a list of pairs does not lie in a block that holds no integer: stores there leave it. -/
theorem Pairs.apart {w : World} {v u x : Value} {l : List (Int × Int)} {B j : Nat} {T : TypeId} (h : Pairs w v l) (hb : Blk w B T [u]) (hu : ∀ y : Int, u ≠ .int .i64 y) : Pairs (w.setCell ⟨B, j, none⟩ x) v l := by
  obtain ⟨a, c, hv, hc, hr⟩ := h
  refine ⟨a, c, hv, hc, fun h0 => ?_⟩
  obtain ⟨b, off, ha, hd⟩ := hr h0
  refine ⟨b, off, ha, fun k y hk => ?_⟩
  obtain ⟨c0, c1⟩ := hd k y hk
  have hne : b ≠ B := by
    rintro rfl
    have hq : w.cell? ⟨b, off + k * 2, none⟩ = ([u] : List Value)[off + k * 2]? := by simp [World.cell?, show w.heap[b]? = _ from hb]
    rw [c0] at hq
    rcases Nat.eq_zero_or_pos (off + k * 2) with e | e
    · rw [e] at hq; simp at hq; exact hu _ hq.symm
    · rw [List.getElem?_eq_none (by simp; omega)] at hq; simp at hq
  have key : ∀ q : Nat, (w.setCell ⟨B, j, none⟩ x).cell? ⟨b, q, none⟩ = w.cell? ⟨b, q, none⟩ := fun q =>
    World.cell?_of_block (Below.heap_setCell _ _ _ _ (show b ≠ B from hne))
  rw [key, key]
  exact ⟨c0, c1⟩

def tapP (ls : List (Int × Int)) (b tap : Int) : Int := firstE [braE ls b, withinE tap (-8) 8]
def tapX (ls : List (Int × Int)) (b tap : Int) : Int := bif tapP ls b tap == 0 then tapE (fltE (tapL ls b.toNat tap)) else tapP ls b tap
def tapZ (ls : List (Int × Int)) (b tap : Int) : List (Int × Int) := bif tapP ls b tap == 0 then lsIf (fltE (tapL ls b.toNat tap)) (tapL ls b.toNat tap) else []
theorem tapP_zero {ls : List (Int × Int)} {b tap : Int} (h : tapP ls b tap = 0) : fltE ls = 0 ∧ 0 ≤ b ∧ b < ls.length := by
  unfold tapP at h
  exact braE_zero (firstE_head h)
set_option maxRecDepth 100000 in
set_option maxHeartbeats 4000000 in
theorem Tapped_any (v : Value) (ls : List (Int × Int)) (b tap : Int) (w : World) (hv : Pairs w v ls) (hl : ls.length ≤ 1000000) :
    Calls Tryz.prog 14 #[.agg #[v], .int .i64 b, .int .i64 tap] w fun e w' => (∃ u, e = .returned (.tuple #[.agg #[u], .int .i64 (tapX ls b tap)]) ∧ Pairs w' u (tapZ ls b tap)) ∧ Below w.heap.size w w' := by
  obtain ⟨X, hX⟩ : ∃ X, X = tapX ls b tap := ⟨_, rfl⟩
  obtain ⟨Z, hZ⟩ : ∃ Z, Z = tapZ ls b tap := ⟨_, rfl⟩
  rw [← hX, ← hZ]
  have TB := Lib.hid (fun W hP => checkBranch_any v ls b W hP hl)
  have TW := Lib.hid (fun W => withinH_any tap (-8) 8 W)
  have TT := Lib.hid (fun (h0 : tapP ls b tap = 0) W hP => by
    obtain ⟨_, hb0, hb1⟩ := tapP_zero h0
    have := tapped_any v ls b.toNat tap W hP hl (by omega)
    rw [Int.toNat_of_nonneg hb0] at this
    exact this)
  have hml : (tapL ls b.toNat tap).length ≤ 1000000 := by rw [tapL, List.length_set]; exact hl
  rw [tapX] at hX
  rw [tapZ] at hZ
  generalize tapL ls b.toNat tap = R at TT hX hZ hml
  have TC := Lib.hid (fun u W hP => CheckFilter_any u R W hP hml)
  generalize fltE R = E at TC hX hZ
  have TF := Lib.hid (fun (u : Value) (W : World) (h : Ints W u [braE ls b, withinE tap (-8) 8]) => firstH_any u _ W (by simp [maxLen]) h)
  rw [show firstE [braE ls b, withinE tap (-8) 8] = tapP ls b tap from rfl] at TF
  generalize tapP ls b tap = F at TF TT hX hZ
  generalize braE ls b = e1 at TB TF
  generalize withinE tap (-8) 8 = e2 at TW TF
  have HV := Lib.hid hv
  have HX := Lib.hid hX
  have HZ := Lib.hid hZ
  obtain ⟨a, cp, rfl, _, _⟩ := id hv
  clear hv hX hZ hml
  go_enter Tryz.func14, Tryz.ntmps14
  go_upto_region 1 with fail
  obtain ⟨W1, hW1⟩ : ∃ v, v = World.alloc w (Obj.cells #[.slice a ls.length cp] 34) := ⟨_, rfl⟩
  have kW1 : Below w.heap.size w W1 := by rw [hW1]; exact below_new _ _
  have iW1 : Blk W1 (w.heap.size) 34 [.slice a ls.length cp] := by rw [hW1]; exact Blk.new _ _ _
  have sW1 : W1.heap.size = w.heap.size + 1 := by rw [hW1]; simp
  rw [← hW1]
  clear hW1
  obtain ⟨W2, hW2⟩ : ∃ v, v = World.alloc W1 (Obj.cells #[.slice none 0 0] 34) := ⟨_, rfl⟩
  have kW2 : Below W1.heap.size W1 W2 := by rw [hW2]; exact below_new _ _
  have iW2 : Blk W2 (w.heap.size + 1) 34 [.slice none 0 0] := by rw [hW2, ← sW1]; exact Blk.new _ _ _
  have sW2 : W2.heap.size = w.heap.size + 1 + 1 := by rw [hW2]; simp [sW1]
  rw [← hW2]
  clear hW2
  have i1 := iW1.carry kW2
  have i6 := iW2
  have hB := bthen kW1 kW2
  have a0 := i1.cell (j := 0) (v := .slice a ls.length cp) rfl
  clear iW1 iW2 kW1 kW2 sW1 sW2
  go_wp2_with fail
  refine (TB.out W2 (HV.out.carry hB)).mono ?_
  rintro e W3 ⟨rfl, hb⟩
  replace i1 := i1.carry hb
  replace i6 := i6.carry hb
  replace hB := bthen hB hb
  clear hb a0
  go_wp2_with fail
  refine (TW.out W3).mono ?_
  rintro e W3 ⟨rfl, rfl⟩
  go_wp2_with fail
  obtain ⟨W4, hW4⟩ : ∃ v, v = World.alloc W3 (Obj.cells #[.int .i64 e1, .int .i64 e2] 39) := ⟨_, rfl⟩
  have kW4 : Below W3.heap.size W3 W4 := by rw [hW4]; exact below_new _ _
  have iW4 : Blk W4 (W3.heap.size) 39 [.int .i64 e1, .int .i64 e2] := by rw [hW4]; exact Blk.new _ _ _
  have sW4 : W4.heap.size = W3.heap.size + 1 := by rw [hW4]; simp
  rw [← hW4]
  clear hW4
  refine (TF.out _ W4 (BlkI.ints (l := [e1, e2]) iW4 rfl)).mono ?_
  rintro e w' ⟨rfl, rfl⟩
  replace i1 := i1.carry kW4
  replace i6 := i6.carry kW4
  replace hB := bthen hB kW4
  have a0 := i1.cell (j := 0) (v := .slice a ls.length cp) rfl
  have z6 := i6.cell (j := 0) (v := .slice none 0 0) rfl
  have f6 := i6.frozen 0
  clear kW4 iW4 sW4
  by_cases hF : F = 0
  · subst hF
    have TT2 := Lib.hid (TT.out rfl)
    clear TT
    go_wp2_with fail
    refine (TT2.out W4 (HV.out.carry hB)).mono ?_
    rintro e W5 ⟨⟨u, rfl, hP⟩, hb⟩
    obtain ⟨ua, uc, rfl, _, _⟩ := id hP
    replace i6 := i6.carry hb
    replace hB := bthen hB hb
    have hP5 := Lib.hid hP
    clear hb a0 z6 f6 hP
    go_upto_region 5 with fail
    obtain ⟨W6, hW6⟩ : ∃ v, v = World.alloc W5 (Obj.cells #[.slice ua R.length uc] 34) := ⟨_, rfl⟩
    have kW6 : Below W5.heap.size W5 W6 := by rw [hW6]; exact below_new _ _
    have iW6 : Blk W6 (W5.heap.size) 34 [.slice ua R.length uc] := by rw [hW6]; exact Blk.new _ _ _
    have sW6 : W6.heap.size = W5.heap.size + 1 := by rw [hW6]; simp
    rw [← hW6]
    clear hW6
    replace i6 := i6.carry kW6
    replace hB := bthen hB kW6
    have hP6 := Lib.hid (hP5.out.carry kW6)
    have i9 := iW6
    have z9 := i9.cell (j := 0) (v := .slice ua R.length uc) rfl
    clear kW6 sW6 iW6 hP5
    go_wp2_with fail
    refine (TC.out _ W6 hP6.out).mono ?_
    rintro e W7 ⟨rfl, hb⟩
    replace i6 := i6.carry hb
    replace i9 := i9.carry hb
    replace hB := bthen hB hb
    have hP7 := Lib.hid (hP6.out.carry hb)
    clear hb z9 hP6
    have z9 := i9.cell (j := 0) (v := .slice ua R.length uc) rfl
    have z6 := i6.cell (j := 0) (v := .slice none 0 0) rfl
    have f6 := i6.frozen 0
    by_cases hE : E = 0
    · subst hE
      go_wp2_with fail
      have i10 := i6.set 0 (.slice ua R.length uc)
      have z0 := i10.cell (j := 0) (v := .slice ua R.length uc) rfl
      exact bodyPost_ret (v := .tuple #[.agg #[.slice ua R.length uc], .int .i64 0]) (by simp [results, Tryz.f14, go_sem, z0]) rfl ⟨⟨_, by rw [HX.out]; rfl, by rw [HZ.out]; exact hP7.out.apart i6 (fun y hy => by simp at hy)⟩, hB.setCell (by simp) _⟩
    · have z' : (E != 0) = true := by rw [bne_iff_ne]; exact hE
      have HE := Lib.hid (show (E == 0) = false by rw [beq_eq_false_iff_ne]; exact hE)
      go_wp2_with fail
      have i10 := i6.set 0 (.slice none 0 0)
      have z0 := i10.cell (j := 0) (v := .slice none 0 0) rfl
      exact bodyPost_ret (v := .tuple #[.agg #[.slice none 0 0], .int .i64 4]) (by simp [results, Tryz.f14, go_sem, z0]) rfl ⟨⟨_, by rw [HX.out, tapE, HE.out]; rfl, by rw [HZ.out, lsIf, HE.out]; exact Pairs.none' _⟩, hB.setCell (by simp) _⟩
  · have z' : (F != 0) = true := by rw [bne_iff_ne]; exact hF
    have HF := Lib.hid (show (F == 0) = false by rw [beq_eq_false_iff_ne]; exact hF)
    clear TT
    go_wp2_with fail
    have i10 := i6.set 0 (.slice none 0 0)
    have z0 := i10.cell (j := 0) (v := .slice none 0 0) rfl
    exact bodyPost_ret (v := .tuple #[.agg #[.slice none 0 0], .int .i64 F]) (by simp [results, Tryz.f14, go_sem, z0]) rfl ⟨⟨_, by rw [HX.out, HF.out]; rfl, by rw [HZ.out, HF.out]; exact Pairs.none' _⟩, hB.setCell (by simp) _⟩
end

end Go.Proofs.YtpkaoechbmbolaaGreatDoor

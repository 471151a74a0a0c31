/- The law LoopSums' own 'small', and the reference's Times and Plus. -/
import Derived.Test.YtnlmaildmeihgaaGreatDoorPlainS
import Derived.Test.YtnlmaildmeihgaaGreatDoorAwakeE
namespace Go.Proofs.YtnlmaildmeihgaaGreatDoor
open Go.RowKit
set_option linter.unusedSimpArgs false
set_option linter.unusedVariables false

theorem index_s0 (a b c : Int) (w : World) : (Instr.index 111 (.agg #[.int .i8 a, .int .i8 b, .int .i8 c]) (.int .i64 0)).run Tryz.prog w = .ok (.int .i8 a) w := by kernel_rfl
theorem index_s1 (a b c : Int) (w : World) : (Instr.index 111 (.agg #[.int .i8 a, .int .i8 b, .int .i8 c]) (.int .i64 1)).run Tryz.prog w = .ok (.int .i8 b) w := by kernel_rfl
theorem index_s2 (a b c : Int) (w : World) : (Instr.index 111 (.agg #[.int .i8 a, .int .i8 b, .int .i8 c]) (.int .i64 2)).run Tryz.prog w = .ok (.int .i8 c) w := by kernel_rfl

/-- the coefficients, zeros at the end too. -/
def smR (a b c : Int) : List Int := [a.tmod 8, b.tmod 8, c.tmod 8]
def smL (a b c : Int) : List Int := trimL (smR a b c)

set_option maxRecDepth 100000 in
set_option maxHeartbeats 2000000 in
theorem small_any (a b c : Int) (w : World) (ha : -128 ≤ a ∧ a ≤ 127) (hb : -128 ≤ b ∧ b ≤ 127) (hc : -128 ≤ c ∧ c ≤ 127) :
    Calls Tryz.prog 63 #[.agg #[.int .i8 a, .int .i8 b, .int .i8 c]] w (GivesInts w (smL a b c)) := by
  obtain ⟨i0, hi, hz0, hz1, hz2⟩ := info_parts Tryz.infoInt
  have c0 : IntKind.i64.wrap a = a := IntWalk.i64_in _ (by omega)
  have c1 : IntKind.i64.wrap b = b := IntWalk.i64_in _ (by omega)
  have c2 : IntKind.i64.wrap c = c := IntWalk.i64_in _ (by omega)
  obtain ⟨x, hx⟩ : ∃ x, a.tmod 8 = x := ⟨_, rfl⟩
  obtain ⟨y, hy⟩ : ∃ y, b.tmod 8 = y := ⟨_, rfl⟩
  obtain ⟨z, hz⟩ : ∃ z, c.tmod 8 = z := ⟨_, rfl⟩
  have hsm : smL a b c = trimL [x, y, z] := by rw [smL, smR, hx, hy, hz]
  rw [hsm]
  have n0 := index_s0 a b c
  have n1 := index_s1 a b c
  have n2 := index_s2 a b c
  clear ha hb hc hsm
  go_enter Tryz.func63, Tryz.ntmps63
  go_upto_region 1 with fail
  obtain ⟨W1, hW1⟩ : ∃ v, v = World.alloc w (Obj.cells #[.int .i8 a, .int .i8 b, .int .i8 c] 111) := ⟨_, rfl⟩
  have kW1 : Below w.heap.size w W1 := by rw [hW1]; exact below_new _ _
  have iW1 : Blk W1 (w.heap.size) 111 [.int .i8 a, .int .i8 b, .int .i8 c] := by rw [hW1]; exact Blk.new _ _ _
  have sW1 : W1.heap.size = w.heap.size + 1 := by rw [hW1]; simp
  rw [← hW1]
  clear hW1
  clear sW1
  have e0 := iW1.cell (j := 0) (v := .int .i8 a) rfl
  have e1 := iW1.cell (j := 1) (v := .int .i8 b) rfl
  have e2 := iW1.cell (j := 2) (v := .int .i8 c) rfl
  go_wp2_with fail
  clear e0 e1 e2 iW1
  obtain ⟨wo, rfl⟩ : ∃ v, v = W1 := ⟨_, rfl⟩
  go_loopw [3, 7] (fun v3 v7 wr => ∃ k : Nat, k ≤ 3 ∧ v7 = .int .i64 k ∧ OwnI 3 wo.heap.size wr v3 ([x, y, z].take k) ∧ Below wo.heap.size wo wr) (fun _ v7 _ => 3 - (intOf v7).toNat)
  case atStart => exact ⟨0, by omega, rfl, World.ownsRow_nil _ _ _ _, Below.refl _ _⟩
  case round =>
    obtain ⟨k, hk, rfl, hown, hbr⟩ := hrel
    have hsz := hbr.size
    by_cases hlt : k < 3
    · obtain rfl | rfl | rfl : k = 0 ∨ k = 1 ∨ k = 2 := by omega
      · go_wp2_with (at_builtin; refine wpList_append_own _ rfl _ _ 22 rfl wo.heap.size 3 i0 (.int .i64 0) 1 8 Tryz.underlying22 hi hz0 hz1 hz2 rfl (by decide) _ _ _ rfl (hown.alloc _) ⟨wr.heap.size, 0, none⟩ 1 1 [.int .i64 x] rfl rfl (cell_one_new _ _ _) (by simp [Value.oneCell']) (by unfold maxLen; simp) (by simp) (by simp; omega) ?_; intro v' w5 hown5 hgrow5 _)
        have hb5 := below_own hbr hown hgrow5
        have hn5 : OwnI 3 wo.heap.size w5 v' ([x, y, z].take 1) := hown5
        go_wp2
        go_roundw
        case rel => exact ⟨1, by omega, by go_num, hn5, hb5⟩
        case measure => simp [intOf]
      · go_wp2_with (at_builtin; refine wpList_append_own _ rfl _ _ 22 rfl wo.heap.size 3 i0 (.int .i64 0) 1 8 Tryz.underlying22 hi hz0 hz1 hz2 rfl (by decide) _ _ _ rfl (hown.alloc _) ⟨wr.heap.size, 0, none⟩ 1 1 [.int .i64 y] rfl rfl (cell_one_new _ _ _) (by simp [Value.oneCell']) (by unfold maxLen; simp) (by simp) (by simp; omega) ?_; intro v' w5 hown5 hgrow5 _)
        have hb5 := below_own hbr hown hgrow5
        have hn5 : OwnI 3 wo.heap.size w5 v' ([x, y, z].take 2) := hown5
        go_wp2
        go_roundw
        case rel => exact ⟨2, by omega, by go_num, hn5, hb5⟩
        case measure => simp [intOf]
      · go_wp2_with (at_builtin; refine wpList_append_own _ rfl _ _ 22 rfl wo.heap.size 3 i0 (.int .i64 0) 1 8 Tryz.underlying22 hi hz0 hz1 hz2 rfl (by decide) _ _ _ rfl (hown.alloc _) ⟨wr.heap.size, 0, none⟩ 1 1 [.int .i64 z] rfl rfl (cell_one_new _ _ _) (by simp [Value.oneCell']) (by unfold maxLen; simp) (by simp) (by simp; omega) ?_; intro v' w5 hown5 hgrow5 _)
        have hb5 := below_own hbr hown hgrow5
        have hn5 : OwnI 3 wo.heap.size w5 v' ([x, y, z].take 3) := hown5
        go_wp2
        go_roundw
        case rel => exact ⟨3, by omega, by go_num, hn5, hb5⟩
        case measure => simp [intOf]
    · obtain rfl : k = 3 := by omega
      have hu : Ints wr u3 [x, y, z] := hown.ints
      obtain ⟨b', off, cp, hv3, hcs⟩ := hu.head (by simp)
      rw [show [x, y, z].length = 3 from rfl] at hv3
      subst hv3
      have hcp : 3 ≤ cp := by obtain ⟨a', c', he, hc', _⟩ := hu; cases he; exact hc'
      generalize hl : [x, y, z] = l at hcs hu
      have hl3 : l.length = 3 := by rw [← hl]; rfl
      have hu2 : Ints wr (.slice (some ⟨b', off, none⟩) l.length cp) l := by rw [hl3]; exact hu
      have HU := Lib.hid hu2
      clear hu2
      have HCS := Lib.hid hcs
      have HL3 := Lib.hid hl3
      try rw [show [x, y, z].length = 3 from rfl]
      clear hown hcs hu hl3
      go_wp2_with fail
      go_loop [3] (fun s => ∃ m : Nat, m ≤ 3 ∧ s = .slice (some ⟨b', off, none⟩) m cp ∧ trimN l m = trimN l 3) (fun s => match s with | .slice _ n _ => n | _ => 0)
      case atStart => exact ⟨3, Nat.le_refl _, rfl, rfl⟩
      case round =>
        obtain ⟨m, hm, rfl, hT⟩ := hrel
        have HT := Lib.hid hT
        clear hT
        have hfin : trimN l 3 = m → Ints wr (.slice (some ⟨b', off, none⟩) m cp) (trimL l) := fun h => by
          have := HU.out.take (n := m) (by rw [HL3.out]; exact hm)
          rw [trimL, HL3.out, h]
          exact this
        cases m with
        | zero =>
          have hout := Lib.hid (hfin HT.out.symm)
          clear hfin
          go_wp2_with fail
          go_ret
          exact ⟨⟨_, rfl, hout.out⟩, bthen kW1 hbr⟩
        | succ m =>
          have hcell := HCS.out m (by rw [HL3.out]; omega)
          generalize hq : l[m]?.getD 0 = q at hcell
          have HQ := Lib.hid hq
          clear hq
          by_cases h0 : q = 0
          · subst h0
            clear hfin
            go_wp2_with fail
            go_round
            case rel => exact ⟨m, by omega, by simp, by have := HT.out; rw [trimN, if_pos HQ.out] at this; exact this⟩
            case measure => simp
          · have hout := Lib.hid (hfin (by have := HT.out; rw [trimN, if_neg (by rw [HQ.out]; exact h0)] at this; exact this.symm))
            clear hfin
            go_wp2_with fail
            go_ret
            exact ⟨⟨_, rfl, hout.out⟩, bthen kW1 hbr⟩

set_option maxHeartbeats 1000000 in
theorem Times_any (a b c d : Int) (w : World) :
    Calls Tryz.prog 65 #[.agg #[.int .i64 a, .int .i64 b], .agg #[.int .i64 c, .int .i64 d]] w fun e w' => e = .returned (.agg #[.int .i64 (wrap64 (wrap64 (a * c) - wrap64 (b * d))), .int .i64 (wrap64 (wrap64 (a * d) + wrap64 (b * c)))]) ∧ Below w.heap.size w w' := by
  go_enter Tryz.func65, Tryz.ntmps65
  go_upto_region 1 with fail
  obtain ⟨W1, hW1⟩ : ∃ v, v = World.alloc w (Obj.cells #[.int .i64 a, .int .i64 b] 59) := ⟨_, rfl⟩
  have kW1 : Below w.heap.size w W1 := by rw [hW1]; exact below_new _ _
  have iW1 : Blk W1 (w.heap.size) 59 [.int .i64 a, .int .i64 b] := by rw [hW1]; exact Blk.new _ _ _
  have sW1 : W1.heap.size = w.heap.size + 1 := by rw [hW1]; simp
  rw [← hW1]
  clear hW1
  obtain ⟨W2, hW2⟩ : ∃ v, v = World.alloc W1 (Obj.cells #[.int .i64 c, .int .i64 d] 59) := ⟨_, rfl⟩
  have kW2 : Below W1.heap.size W1 W2 := by rw [hW2]; exact below_new _ _
  have iW2 : Blk W2 (w.heap.size + 1) 59 [.int .i64 c, .int .i64 d] := by rw [hW2, ← sW1]; exact Blk.new _ _ _
  have sW2 : W2.heap.size = w.heap.size + 1 + 1 := by rw [hW2]; simp [sW1]
  rw [← hW2]
  clear hW2
  obtain ⟨W3, hW3⟩ : ∃ v, v = World.alloc W2 (Obj.cells #[.int .i64 0, .int .i64 0] 59) := ⟨_, rfl⟩
  have kW3 : Below W2.heap.size W2 W3 := by rw [hW3]; exact below_new _ _
  have iW3 : Blk W3 (w.heap.size + 1 + 1) 59 [.int .i64 0, .int .i64 0] := by rw [hW3, ← sW2]; exact Blk.new _ _ _
  have sW3 : W3.heap.size = w.heap.size + 1 + 1 + 1 := by rw [hW3]; simp [sW2]
  rw [← hW3]
  clear hW3
  clear sW1 sW2 sW3
  have i1 := (iW1.carry kW2).carry kW3
  have i2 := iW2.carry kW3
  have e0 := i1.cell (j := 0) (v := .int .i64 a) rfl
  have e1 := i1.cell (j := 1) (v := .int .i64 b) rfl
  have e2 := i2.cell (j := 0) (v := .int .i64 c) rfl
  have e3 := i2.cell (j := 1) (v := .int .i64 d) rfl
  have r0 := iW3.cell (j := 0) (v := .int .i64 0) rfl
  have r1 := iW3.cell (j := 1) (v := .int .i64 0) rfl
  have f0 := iW3.frozen 0
  have f1 := iW3.frozen 1
  have hB := bthen kW1 (bthen kW2 kW3)
  clear iW1 iW2 kW1 kW2 kW3 i1 i2
  go_wp2_with fail
  have h9 := iW3.set2 (.int .i64 (wrap64 (wrap64 (a * c) - wrap64 (b * d)))) (.int .i64 (wrap64 (wrap64 (a * d) + wrap64 (b * c))))
  have y0 := h9.cell (j := 0) (v := .int .i64 (wrap64 (wrap64 (a * c) - wrap64 (b * d)))) rfl
  have y1 := h9.cell (j := 1) (v := .int .i64 (wrap64 (wrap64 (a * d) + wrap64 (b * c)))) rfl
  exact bodyPost_ret (v := .agg #[.int .i64 (wrap64 (wrap64 (a * c) - wrap64 (b * d))), .int .i64 (wrap64 (wrap64 (a * d) + wrap64 (b * c)))]) (by simp [results, Tryz.f65, go_sem, y0, y1]) rfl ⟨rfl, (hB.setCell (by simp; omega) _).setCell (by simp; omega) _⟩

set_option maxHeartbeats 1000000 in
theorem Plus_any (a b c d : Int) (w : World) :
    Calls Tryz.prog 67 #[.agg #[.int .i64 a, .int .i64 b], .agg #[.int .i64 c, .int .i64 d]] w fun e w' => e = .returned (.agg #[.int .i64 (wrap64 (a + c)), .int .i64 (wrap64 (b + d))]) ∧ Below w.heap.size w w' := by
  go_enter Tryz.func67, Tryz.ntmps67
  go_upto_region 1 with fail
  obtain ⟨W1, hW1⟩ : ∃ v, v = World.alloc w (Obj.cells #[.int .i64 a, .int .i64 b] 59) := ⟨_, rfl⟩
  have kW1 : Below w.heap.size w W1 := by rw [hW1]; exact below_new _ _
  have iW1 : Blk W1 (w.heap.size) 59 [.int .i64 a, .int .i64 b] := by rw [hW1]; exact Blk.new _ _ _
  have sW1 : W1.heap.size = w.heap.size + 1 := by rw [hW1]; simp
  rw [← hW1]
  clear hW1
  obtain ⟨W2, hW2⟩ : ∃ v, v = World.alloc W1 (Obj.cells #[.int .i64 c, .int .i64 d] 59) := ⟨_, rfl⟩
  have kW2 : Below W1.heap.size W1 W2 := by rw [hW2]; exact below_new _ _
  have iW2 : Blk W2 (w.heap.size + 1) 59 [.int .i64 c, .int .i64 d] := by rw [hW2, ← sW1]; exact Blk.new _ _ _
  have sW2 : W2.heap.size = w.heap.size + 1 + 1 := by rw [hW2]; simp [sW1]
  rw [← hW2]
  clear hW2
  obtain ⟨W3, hW3⟩ : ∃ v, v = World.alloc W2 (Obj.cells #[.int .i64 0, .int .i64 0] 59) := ⟨_, rfl⟩
  have kW3 : Below W2.heap.size W2 W3 := by rw [hW3]; exact below_new _ _
  have iW3 : Blk W3 (w.heap.size + 1 + 1) 59 [.int .i64 0, .int .i64 0] := by rw [hW3, ← sW2]; exact Blk.new _ _ _
  have sW3 : W3.heap.size = w.heap.size + 1 + 1 + 1 := by rw [hW3]; simp [sW2]
  rw [← hW3]
  clear hW3
  clear sW1 sW2 sW3
  have i1 := (iW1.carry kW2).carry kW3
  have i2 := iW2.carry kW3
  have e0 := i1.cell (j := 0) (v := .int .i64 a) rfl
  have e1 := i1.cell (j := 1) (v := .int .i64 b) rfl
  have e2 := i2.cell (j := 0) (v := .int .i64 c) rfl
  have e3 := i2.cell (j := 1) (v := .int .i64 d) rfl
  have r0 := iW3.cell (j := 0) (v := .int .i64 0) rfl
  have r1 := iW3.cell (j := 1) (v := .int .i64 0) rfl
  have f0 := iW3.frozen 0
  have f1 := iW3.frozen 1
  have hB := bthen kW1 (bthen kW2 kW3)
  clear iW1 iW2 kW1 kW2 kW3 i1 i2
  go_wp2_with fail
  have h9 := iW3.set2 (.int .i64 (wrap64 (a + c))) (.int .i64 (wrap64 (b + d)))
  have y0 := h9.cell (j := 0) (v := .int .i64 (wrap64 (a + c))) rfl
  have y1 := h9.cell (j := 1) (v := .int .i64 (wrap64 (b + d))) rfl
  exact bodyPost_ret (v := .agg #[.int .i64 (wrap64 (a + c)), .int .i64 (wrap64 (b + d))]) (by simp [results, Tryz.f67, go_sem, y0, y1]) rfl ⟨rfl, (hB.setCell (by simp; omega) _).setCell (by simp; omega) _⟩

end Go.Proofs.YtnlmaildmeihgaaGreatDoor

/- The package harmonic: orders in excess, quarter patterns. -/
import Derived.Test.YtfeajpkjjlddlaaGreatDoorHarI
namespace Go.Proofs.YtfeajpkjjlddlaaGreatDoor
set_option linter.unusedSimpArgs false
set_option linter.unusedVariables false
open Go.RowKit

def excL (l lim : List Int) : List Int := chosenL (fun h => excB l lim h.toNat) 2 5
/-- the numbers that are compared are small. -/
def SmallP (l lim : List Int) : Prop := ∀ h : Nat, 2 ≤ h → h < 7 → Small (scR 256 (stC (orderC l h)) (lim[h]?.getD 0) (stC (orderC l 1)))
set_option maxRecDepth 100000 in
set_option maxHeartbeats 2000000 in
theorem excess_any (l lim : List Int) (w : World) (hl : l.length = 12) (hlim : lim.length = 7) (hw : Powers w) (hS : SmallP l lim) :
    Calls Tryz.prog 66 #[.agg (ia l), .agg (ia lim)] w fun e w' => (∃ u, e = .returned u ∧ Ints w' u (excL l lim)) ∧ Below w.heap.size w w' := by
  have TO := Lib.hid (fun W hW => order_any l 1 W hl (by omega) hW)
  have TS := Lib.hid (fun W => strengthC_any (orderC l 1).1 (orderC l 1).2.1 (orderC l 1).2.2.1 (orderC l 1).2.2.2 W)
  have hb1 : stC (orderC l 1) = (st0 (orderC l 1).1 (orderC l 1).2.1 (orderC l 1).2.2.1 (orderC l 1).2.2.2, st1 (orderC l 1).1 (orderC l 1).2.1 (orderC l 1).2.2.1 (orderC l 1).2.2.2) := rfl
  have HBC := Lib.hid (fun (W : World) (Bb : Nat) (h : Blk W Bb 51 [.int .i64 (st0 (orderC l 1).1 (orderC l 1).2.1 (orderC l 1).2.2.1 (orderC l 1).2.2.2), .int .i64 (st1 (orderC l 1).1 (orderC l 1).2.1 (orderC l 1).2.2.1 (orderC l 1).2.2.2)]) => show Blk W Bb 51 [.int .i64 (stC (orderC l 1)).1, .int .i64 (stC (orderC l 1)).2] from h)
  clear hb1
  simp only [cyV] at TO
  generalize st0 (orderC l 1).1 (orderC l 1).2.1 (orderC l 1).2.2.1 (orderC l 1).2.2.2 = s0 at TS HBC
  generalize st1 (orderC l 1).1 (orderC l 1).2.1 (orderC l 1).2.2.1 (orderC l 1).2.2.2 = s1 at TS HBC
  generalize (orderC l 1).1 = o0 at TO TS
  generalize (orderC l 1).2.1 = o1 at TO TS
  generalize (orderC l 1).2.2.1 = o2 at TO TS
  generalize (orderC l 1).2.2.2 = o3 at TO TS
  go_enter Tryz.func66, Tryz.ntmps66
  go_upto_region 1 with fail
  obtain ⟨W1, hW1⟩ : ∃ W, W = w.alloc (.cells (ia l) 30) := ⟨_, rfl⟩
  have kW1 : Below w.heap.size w W1 := by rw [hW1]; exact below_new _ _
  have iW1 : BlkI W1 w.heap.size 30 l := by rw [hW1]; exact BlkI.new _ _ _
  have sW1 : W1.heap.size = w.heap.size + 1 := by rw [hW1]; simp
  rw [← hW1]
  clear hW1
  obtain ⟨W2, hW2⟩ : ∃ W, W = W1.alloc (.cells (ia lim) 63) := ⟨_, rfl⟩
  have kW2 : Below W1.heap.size W1 W2 := by rw [hW2]; exact below_new _ _
  have iW2 : BlkI W2 (w.heap.size + 1) 63 lim := by rw [hW2, ← sW1]; exact BlkI.new _ _ _
  rw [← hW2]
  clear hW2
  replace iW1 := iW1.carry kW2
  have hB := bthen kW1 kW2
  clear kW1 kW2 sW1
  have hld := load12 hl iW1
  go_wp2_with (refine wpList_load rfl _ _ rfl hld ?_)
  refine (TO.out W2 (hw.carry hB)).mono ?_
  rintro e w3 ⟨rfl, hb3⟩
  clear hld
  go_wp2_with fail
  refine (TS.out w3).mono ?_
  rintro e w4 ⟨rfl, hb4⟩
  have hb34 := bthen hb3 hb4
  replace iW1 := iW1.carry hb34
  replace iW2 := iW2.carry hb34
  replace hB := bthen hB hb34
  clear hb34 hb3 hb4
  go_upto_region 2 with fail
  obtain ⟨W5, hW5⟩ : ∃ v, v = World.alloc w4 (Obj.cells #[.int .i64 s0, .int .i64 s1] 51) := ⟨_, rfl⟩
  have kW5 : Below w4.heap.size w4 W5 := by rw [hW5]; exact below_new _ _
  have iW5 : Blk W5 (w4.heap.size) 51 [.int .i64 s0, .int .i64 s1] := by rw [hW5]; exact Blk.new _ _ _
  have sW5 : W5.heap.size = w4.heap.size + 1 := by rw [hW5]; simp
  rw [← hW5]
  clear hW5
  replace iW1 := iW1.carry kW5
  replace iW2 := iW2.carry kW5
  replace hB := bthen hB kW5
  have TC := Lib.hid (chosen_any 112 #[.pointer (some ⟨w.heap.size, 0, none⟩), .pointer (some ⟨w4.heap.size, 0, none⟩), .pointer (some ⟨w.heap.size + 1, 0, none⟩)] Tryz.enterExcess1 (fun h => excB l lim h.toNat) 2 6 5 W5 (by omega) (by omega) (by omega) (fun x h1 h2 W hb => by
    obtain ⟨k, rfl⟩ : ∃ k : Nat, (k : Int) = x := ⟨x.toNat, by omega⟩
    exact excess1_any l lim k _ _ _ W hl hlim (by omega) (hw.carry (bthen hB hb)) (iW1.carry hb) (HBC.out _ _ (iW5.carry hb)) (iW2.carry hb) (hS k (by omega) (by omega))))
  clear iW1 iW2 iW5 kW5 sW5
  go_wp2_with fail
  refine TC.out.mono ?_
  rintro e w6 ⟨⟨u, rfl, hu⟩, hb6⟩
  go_wp2_with fail
  go_ret
  exact ⟨⟨_, rfl, hu⟩, bthen hB hb6⟩

def excE (l lim : List Int) : Int := firstE [patE l, limE lim]
set_option maxRecDepth 100000 in
set_option maxHeartbeats 2000000 in
theorem ExcessH_any (l lim : List Int) (w : World) (hl : l.length = 12) (hlim : lim.length = 7) (hw : Powers w) (hS : excE l lim = 0 → SmallP l lim) :
    Calls Tryz.prog 23 #[.agg (ia l), .agg (ia lim)] w fun e w' => (∃ u, e = .returned (.tuple #[u, .int .i64 (excE l lim)]) ∧ Ints w' u (lsOr (excE l lim) (excL l lim))) ∧ Below w.heap.size w w' := by
  have TP := Lib.hid (fun W => checkPattern_any l W hl)
  have TL := Lib.hid (fun W => checkLimits_any lim W hlim)
  have TE := Lib.hid (fun W hW hS => excess_any l lim W hl hlim hW hS)
  rw [excE] at hS ⊢
  generalize excL l lim = L at TE ⊢
  generalize patE l = ep at TP hS ⊢
  generalize limE lim = el at TL hS ⊢
  obtain ⟨E, hE⟩ : ∃ E, E = firstE [ep, el] := ⟨_, rfl⟩
  rw [← hE] at hS ⊢
  have TF := Lib.hid (fun (u : Value) (W : World) (h : Ints W u [ep, el]) => firstH_any u [ep, el] W (by simp [maxLen]) h)
  rw [← hE] at TF
  clear hE
  go_enter Tryz.func23, Tryz.ntmps23
  go_upto_region 1 with fail
  obtain ⟨W1, hW1⟩ : ∃ W, W = w.alloc (.cells (ia l) 30) := ⟨_, rfl⟩
  have kW1 : Below w.heap.size w W1 := by rw [hW1]; exact below_new _ _
  have iW1 : BlkI W1 w.heap.size 30 l := by rw [hW1]; exact BlkI.new _ _ _
  have sW1 : W1.heap.size = w.heap.size + 1 := by rw [hW1]; simp
  rw [← hW1]
  clear hW1
  obtain ⟨W2, hW2⟩ : ∃ W, W = W1.alloc (.cells (ia lim) 63) := ⟨_, rfl⟩
  have kW2 : Below W1.heap.size W1 W2 := by rw [hW2]; exact below_new _ _
  have iW2 : BlkI W2 (w.heap.size + 1) 63 lim := by rw [hW2, ← sW1]; exact BlkI.new _ _ _
  rw [← hW2]
  clear hW2
  replace iW1 := iW1.carry kW2
  have hB := bthen kW1 kW2
  clear kW1 kW2 sW1
  refine wp_region_E 6 (by kernel_rfl) ?_
  obtain ⟨wz, hwz⟩ : ∃ v, v = W2.drew := ⟨_, rfl⟩
  rw [← hwz]
  have hlz : Below W2.heap.size W2 wz := by rw [hwz]; exact (Below.refl _ _).drew
  have hbz := bthen hB hlz
  have iW1 := iW1.carry hlz
  have iW2 := iW2.carry hlz
  clear hwz hlz
  refine wpAnyE_take (i := 0) (oi := { dst := some 7, op := Op.load 30 (Operand.tmp 2), type := 30, pos := "harmonic.go:278", after := #[], guard := none }) (v := ?_) rfl (by kernel_rfl) (by kernel_rfl) (by kernel_rfl) (by kernel_rfl) (fun _ _ _ h => h) (Or.inl ⟨by rfl, ?_⟩) ?_
  rotate_left
  · (intro w hE; (try dsimp only); refine (exec_load rfl (load12 hl (iW1.carry hE))).trans ?_); (try with_reducible rfl)
  try simp only [Act.put, List.setIfInBounds_toArray, List.set_cons_zero, List.set_cons_succ]
  refine wpAnyE_take (i := 2) (oi := { dst := some 9, op := Op.load 63 (Operand.tmp 3), type := 63, pos := "harmonic.go:278", after := #[], guard := none }) (v := ?_) rfl (by kernel_rfl) (by kernel_rfl) (by kernel_rfl) (by kernel_rfl) (fun _ _ _ h => h) (Or.inl ⟨by rfl, ?_⟩) ?_
  rotate_left
  · (intro w hE; (try dsimp only); refine (exec_load rfl (load7 hlim (iW2.carry hE))).trans ?_); (try with_reducible rfl)
  try simp only [Act.put, List.setIfInBounds_toArray, List.set_cons_zero, List.set_cons_succ]
  refine wpAnyE_call (i := 1) (oi := { dst := some 8, op := Op.call { callee := Callee.value (Operand.func 42), args := #[Operand.tmp 7], argTypes := #[30] }, type := 31, pos := "harmonic.go:278", after := #[{ on := 0, ground := Ground.data }], guard := none }) (fun w hE => TP.out w) rfl (by kernel_rfl) (by kernel_rfl) (by kernel_rfl) (by kernel_rfl) (fun _ _ _ h => h) (by rfl) (fun w hE => by (try dsimp only); go_simp) ?_
  try simp only [Act.put, List.setIfInBounds_toArray, List.set_cons_zero, List.set_cons_succ]
  refine wpAnyE_call (i := 3) (oi := { dst := some 10, op := Op.call { callee := Callee.value (Operand.func 65), args := #[Operand.tmp 9], argTypes := #[63] }, type := 31, pos := "harmonic.go:278", after := #[{ on := 2, ground := Ground.data }, { on := 1, ground := Ground.chain }], guard := none }) (fun w hE => TL.out w) rfl (by kernel_rfl) (by kernel_rfl) (by kernel_rfl) (by kernel_rfl) (fun _ _ _ h => h) (by rfl) (fun w hE => by (try dsimp only); go_simp) ?_
  try simp only [Act.put, List.setIfInBounds_toArray, List.set_cons_zero, List.set_cons_succ]
  refine wpAnyE_one (i := 4) (o := { dst := some 11, op := Op.buildSlice 90 2 #[(0, Operand.tmp 8), (1, Operand.tmp 10)], type := 90, pos := "harmonic.go:278", after := #[{ on := 1, ground := Ground.data }, { on := 3, ground := Ground.data }], guard := none }) (by kernel_rfl) rfl (fun wy1 hE K hK => ?_)
  have iW1 := iW1.carry hE
  have iW2 := iW2.carry hE
  have hbz1 := bthen hbz hE
  clear hE
  go_simp
  obtain ⟨wx1, hwz⟩ : ∃ v, v = wy1.alloc (Obj.cells #[.int .i64 ep, .int .i64 el] 31) := ⟨_, rfl⟩
  rw [← hwz]
  have hl : Below wy1.heap.size wy1 wx1 := by rw [hwz]; exact below_new _ _
  have hcz1 := bthen hbz1 hl
  have iN : BlkI wx1 wy1.heap.size 31 [ep, el] := by rw [hwz]; exact Blk.new _ _ _
  generalize wy1.heap.size = G at iN ⊢
  have iW1 := iW1.carry hl
  have iW2 := iW2.carry hl
  clear hwz
  refine hK _ _ (fun _ => hl) ?_
  clear hK K hl
  try simp only [Act.put, List.setIfInBounds_toArray, List.set_cons_zero, List.set_cons_succ]
  refine wpAnyE_call (i := 5) (oi := { dst := some 12, op := Op.call { callee := Callee.value (Operand.func 37), args := #[Operand.tmp 11], argTypes := #[90] }, type := 31, pos := "harmonic.go:278", after := #[{ on := 4, ground := Ground.data }, { on := 3, ground := Ground.chain }], guard := none }) (fun w hE => ofPure (TF.out _ w ((BlkI.ints iN rfl).carry hE))) rfl (by kernel_rfl) (by kernel_rfl) (by kernel_rfl) (by kernel_rfl) (fun _ _ _ h => h) (by rfl) (fun w hE => by (try dsimp only); go_simp) ?_
  try simp only [Act.put, List.setIfInBounds_toArray, List.set_cons_zero, List.set_cons_succ]
  refine wpAnyE_one (i := 6) (o := { dst := some 6, op := Op.assign (Operand.tmp 12), type := 31, pos := "harmonic.go:278", after := #[{ on := 5, ground := Ground.data }, { on := 5, ground := Ground.chain }, { on := 0, ground := Ground.phase }, { on := 1, ground := Ground.phase }, { on := 2, ground := Ground.phase }, { on := 3, ground := Ground.phase }, { on := 4, ground := Ground.phase }, { on := 5, ground := Ground.phase }], guard := none }) (by kernel_rfl) rfl (fun wy2 hE K hK => ?_)
  have iW1 := iW1.carry hE
  have iW2 := iW2.carry hE
  have hbz2 := bthen hcz1 hE
  go_simp
  refine hK _ _ (fun _ => Below.refl _ _) ?_
  clear hK K hE
  try simp only [Act.put, List.setIfInBounds_toArray, List.set_cons_zero, List.set_cons_succ]
  refine wpAnyE_done (by kernel_rfl) (fun wy3 hE => ?_) _
  have hbz3 := bthen hbz2 hE
  have iW1 := iW1.carry hE
  have iW2 := iW2.carry hE
  clear hE
  have hB := hbz3
  obtain ⟨W5, hW5⟩ : ∃ v, v = wy3 := ⟨_, rfl⟩
  rw [← hW5] at hB iW1 iW2 ⊢
  clear hW5
  by_cases he : E = 0
  · subst he
    have hld := load12 hl iW1
    have hld2 := load7 hlim iW2
    go_wp2_with (first | refine wpList_load rfl _ _ rfl hld ?_ | refine wpList_load rfl _ _ rfl hld2 ?_)
    refine (TE.out W5 (hw.carry hB) (hS (by trivial))).mono ?_
    rintro e w6 ⟨⟨u, rfl, hu⟩, hb6⟩
    clear hld hld2
    go_wp2_with fail
    go_ret2
    exact ⟨⟨_, rfl, by rw [lsOr, if_pos rfl]; exact hu⟩, bthen hB hb6⟩
  · have z : (E == 0) = false := by rw [beq_eq_false_iff_ne]; exact he
    have HNE := Lib.hid he
    go_wp2_with fail
    go_ret2
    exact ⟨⟨_, rfl, by rw [lsOr, if_neg HNE.out]; exact Ints.nil _⟩, hB⟩

end Go.Proofs.YtfeajpkjjlddlaaGreatDoor

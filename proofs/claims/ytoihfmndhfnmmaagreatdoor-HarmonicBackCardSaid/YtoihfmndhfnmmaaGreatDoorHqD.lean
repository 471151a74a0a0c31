/- The law's helpers for filters; the reference's checks of filters. (printed by gen/harQd.py) -/
import Derived.Test.YtoihfmndhfnmmaaGreatDoorHqA
namespace Go.Proofs.YtoihfmndhfnmmaaGreatDoor
section
set_option linter.unusedSimpArgs false
set_option linter.unusedVariables false
open Go.RowKit

theorem ownsRow_succ2 {w : World} {base e size n : Nat} {v : Value} {xs : List Value} (h : w.ownsRow base e size v (n + 1) xs) : ∃ g cap, v = .slice (some ⟨g, 0, none⟩) (n + 1) cap := by
  rcases h.2 with ⟨_, h2⟩ | ⟨g, cap, cur, hv, _⟩
  · omega
  · exact ⟨g, cap, hv⟩
theorem ownsRow_slice {w : World} {base e size n : Nat} {v : Value} {xs : List Value} (h : w.ownsRow base e size v n xs) : ∃ a cap, v = .slice a n cap := by
  rcases h.2 with ⟨h1, h2⟩ | ⟨g, cap, cur, hv, _⟩
  · exact ⟨none, 0, by rw [h1, h2]⟩
  · exact ⟨_, cap, hv⟩
theorem own_setCell {w : World} {base e size n B j : Nat} {v x : Value} {xs : List Value} (h : w.ownsRow base e size v n xs) (hB : B < base) : (w.setCell ⟨B, j, none⟩ x).ownsRow base e size v n xs := by
  refine ⟨h.1, ?_⟩
  rcases h.2 with h1 | ⟨g, cap, cur, hv, hg, hh, hr⟩
  · exact .inl h1
  · exact .inr ⟨g, cap, cur, hv, hg, (Below.heap_setCell _ _ _ _ (show g ≠ B by omega)).trans hh, hr⟩
theorem flat2_take_succ (ls : List (Int × Int)) (k : Nat) (x : Int × Int) (hk : ls[k]? = some x) : (flat2 (ls.take (k + 1))).map (Value.int .i64) = (flat2 (ls.take k)).map (Value.int .i64) ++ [.int .i64 x.1, .int .i64 x.2] := by
  rw [List.take_add_one, hk, flat2, flat2, List.map_append, List.flatten_append, List.map_append]; simp
theorem Tryz.infoBranchR : (Tryz.prog.info? 151).map (fun i => (i.zero, i.size, i.bytes)) = some (some (.agg #[.int .i64 0, .int .i64 0]), 2, 16) := by kernel_rfl
theorem Tryz.undBranchesR : Tryz.prog.underlying 65 = some (.slice 151) := by kernel_rfl
theorem Tryz.infoFilterR : (Tryz.prog.info? 67).map (·.size) = some 1 := by kernel_rfl


set_option maxRecDepth 100000 in
set_option maxHeartbeats 4000000 in
theorem given_any (v : Value) (ls : List (Int × Int)) (w : World) (hv : Pairs w v ls) (hl : ls.length ≤ 1000000) :
    Calls Tryz.prog 30 #[.agg #[v]] w fun e w' => (∃ u, e = .returned (.agg #[u]) ∧ Pairs w' u ls) ∧ Below w.heap.size w w' := by
  obtain ⟨i0, hi, hz0, hz1, hz2⟩ := info_parts Tryz.infoBranch
  obtain ⟨n, hn⟩ : ∃ n, n = ls.length := ⟨_, rfl⟩
  obtain ⟨a, cp, rfl, _, hcs0⟩ := id hv
  rw [← hn] at hcs0 hl ⊢
  have hcs : ∀ k : Nat, k < n → ∃ b off x, a = some ⟨b, off, none⟩ ∧ ls[k]? = some x ∧ w.cell? ⟨b, off + k * 2, none⟩ = some (.int .i64 x.1) ∧ w.cell? ⟨b, off + k * 2 + 1, none⟩ = some (.int .i64 x.2) := fun k hk => by
    obtain ⟨b, off, rfl, hc⟩ := hcs0 (by omega)
    have e1 := hc k (ls[k]'(by omega)) (List.getElem?_eq_getElem (by omega))
    exact ⟨b, off, _, rfl, List.getElem?_eq_getElem (by omega), e1⟩
  have HC := Lib.hid hcs
  have HN := Lib.hid hn
  clear hv hcs0 hcs hn
  go_enter Tryz.func30, Tryz.ntmps30
  go_upto_region 2 with fail
  obtain ⟨W1, hW1⟩ : ∃ v, v = World.alloc w (Obj.cells #[.slice a n cp] 67) := ⟨_, rfl⟩
  have kW1 : Below w.heap.size w W1 := by rw [hW1]; exact below_new _ _
  have iW1 : Blk W1 (w.heap.size) 67 [.slice a n cp] := by rw [hW1]; exact Blk.new _ _ _
  have sW1 : W1.heap.size = w.heap.size + 1 := by rw [hW1]; simp
  rw [← hW1]
  clear hW1
  obtain ⟨W2, hW2⟩ : ∃ v, v = World.alloc W1 (Obj.cells #[.slice none 0 0] 73) := ⟨_, rfl⟩
  have kW2 : Below W1.heap.size W1 W2 := by rw [hW2]; exact below_new _ _
  have iW2 : Blk W2 (w.heap.size + 1) 73 [.slice none 0 0] := by rw [hW2, ← sW1]; exact Blk.new _ _ _
  have sW2 : W2.heap.size = w.heap.size + 1 + 1 := by rw [hW2]; simp [sW1]
  rw [← hW2]
  clear hW2
  obtain ⟨W3, hW3⟩ : ∃ v, v = World.alloc W2 (Obj.cells #[.slice none 0 0] 73) := ⟨_, rfl⟩
  have kW3 : Below W2.heap.size W2 W3 := by rw [hW3]; exact below_new _ _
  have iW3 : Blk W3 (w.heap.size + 1 + 1) 73 [.slice none 0 0] := by rw [hW3, ← sW2]; exact Blk.new _ _ _
  have sW3 : W3.heap.size = w.heap.size + 1 + 1 + 1 := by rw [hW3]; simp [sW2]
  rw [← hW3]
  clear hW3
  have a0 := ((iW1.carry kW2).carry kW3).cell (j := 0) (v := .slice a n cp) rfl
  have i2 := iW2.carry kW3
  have i3 := iW3
  have hB := bthen kW1 (bthen kW2 kW3)
  have hz : W3.heap.size = w.heap.size + 3 := by omega
  clear iW1 iW2 iW3 kW1 kW2 kW3 sW1 sW2 sW3
  have hB3 : Below W3.heap.size W3 W3 := Below.refl _ _
  have HB := Lib.hid hB
  have HI2 := Lib.hid i2
  go_wp2_with fail
  clear a0 hB i2
  go_loopw [9] (fun i wr => ∃ (k : Nat) (u : Value), k ≤ n ∧ i = .int .i64 k ∧ Blk wr (w.heap.size + 1 + 1) 73 [u] ∧ wr.ownsRow W3.heap.size 148 2 u k ((flat2 (ls.take k)).map (Value.int .i64)) ∧ Blk wr (w.heap.size + 1) 73 [.slice none 0 0] ∧ Below w.heap.size w wr) (fun i _ => n - (intOf i).toNat)
  case atStart => exact ⟨0, _, by omega, rfl, i3, World.ownsRow_nil _ _ _ _, HI2.out, HB.out⟩
  case round =>
    clear i3
    obtain ⟨k, u, hk, rfl, i3, hown, i2, hB⟩ := hrel
    have hsz : W3.heap.size ≤ wr.heap.size := by have := Blk.lt i3; omega
    by_cases hlt : k < n
    · obtain ⟨b, off, x, rfl, hx, c0, c1⟩ := HC.out k hlt
      have c0 := cellb c0 hB
      have c1 := cellb c1 hB
      have hts := flat2_take_succ ls k x hx
      have HTS := Lib.hid hts
      obtain ⟨x0, x1⟩ := x
      simp only at c0 c1
      have d1 : (k : Int) < (n : Int) := by omega
      clear hx hts
      go_upto_region 5 with fail
      obtain ⟨W5, hW5⟩ : ∃ v, v = World.alloc wr (Obj.cells #[.int .i64 x0, .int .i64 x1] 151) := ⟨_, rfl⟩
      have kW5 : Below wr.heap.size wr W5 := by rw [hW5]; exact below_new _ _
      have iW5 : Blk W5 (wr.heap.size) 151 [.int .i64 x0, .int .i64 x1] := by rw [hW5]; exact Blk.new _ _ _
      have sW5 : W5.heap.size = wr.heap.size + 1 := by rw [hW5]; simp
      rw [← hW5]
      clear hW5
      have b0 := iW5.cell (j := 0) (v := .int .i64 x0) rfl
      have b1 := iW5.cell (j := 1) (v := .int .i64 x1) rfl
      replace i3 := i3.carry kW5
      replace i2 := i2.carry kW5
      replace hown := own_below hown kW5
      replace hB := bthen hB kW5
      have hs5 := kW5.size
      have a3 := i3.cell (j := 0) (v := u) rfl
      have f3 := i3.frozen 0
      clear c0 c1 kW5 iW5 sW5
      go_wp2_with (at_builtin; refine wpList_append_own _ rfl _ _ 71 rfl W3.heap.size 148 i0 (.agg #[.int .i64 0, .int .i64 0]) 2 16 Tryz.undBranches hi hz0 hz1 hz2 rfl (by decide) _ _ _ rfl (hown.alloc _) ⟨W5.heap.size, 0, none⟩ 1 1 [.int .i64 x0, .int .i64 x1] rfl rfl (fun j u hj => (Blk.new W5 148 [.int .i64 x0, .int .i64 x1]).news j u hj) (by simp [Value.oneCell']) (by unfold maxLen; omega) (by omega) (by simp; omega) ?_; intro v' w6 hown6 hgrow6 _; obtain ⟨g9, gc9, rfl⟩ := ownsRow_succ2 hown6; have j3 := Blk.own_kept (i3.carry (below_new W5 (.cells #[.int .i64 x0, .int .i64 x1] 148))) (hown.alloc _) (by decide) hgrow6; have j2 := Blk.own_kept (i2.carry (below_new W5 (.cells #[.int .i64 x0, .int .i64 x1] 148))) (hown.alloc _) (by decide) hgrow6; have hB6 := (bthen hB (below_new W5 (.cells #[.int .i64 x0, .int .i64 x1] 148))).grown hgrow6 (by simp; omega) (fun k' hk' => by have := (World.ownsRow.lt hown k' hk').1; omega); have a3 := j3.cell (j := 0) (v := u) rfl; have f3 := j3.frozen 0)
      refine ⟨⟨k + 1, _, by omega, by go_num, j3.set 0 (.slice (some ⟨g9, 0, none⟩) (k + 1) gc9), ?_, j2.other (by omega) _, hB6.setCell (by simp; omega) _⟩, ?_⟩
      · rw [HTS.out]
        exact own_setCell hown6 (by omega)
      · simp [intOf]; omega
    · obtain rfl : k = n := by omega
      obtain ⟨ua, uc, rfl⟩ := ownsRow_slice hown
      have hP2 : Pairs (wr.setCell ⟨w.heap.size + 1, 0, none⟩ (.slice ua k uc)) (.slice ua k uc) ls := by
        have h9 := own_setCell (x := .slice ua k uc) (B := w.heap.size + 1) (j := 0) hown (by omega)
        rw [List.take_of_length_le (by rw [HN.out]; exact Nat.le_refl _)] at h9
        exact Pairs.of_own (l := ls) (base := W3.heap.size) (e := 148) (by rw [← HN.out]; exact h9)
      have a3 := i3.cell (j := 0) (v := .slice ua k uc) rfl
      have a2 := i2.cell (j := 0) (v := .slice none 0 0) rfl
      have f2 := i2.frozen 0
      have hl2 : w.heap.size + 1 < wr.heap.size := Blk.lt i2
      have HP2 := Lib.hid hP2
      clear hown hP2
      go_wp2_with fail
      have i9 := i2.set 0 (.slice ua k uc)
      have z0 := i9.cell (j := 0) (v := .slice ua k uc) rfl
      exact bodyPost_ret (v := .agg #[.slice ua k uc]) (by simp [results, Tryz.f30, go_sem, z0]) rfl ⟨⟨_, rfl, HP2.out⟩, hB.setCell (by simp) _⟩


set_option maxRecDepth 100000 in
set_option maxHeartbeats 4000000 in
theorem told_any (v : Value) (ls : List (Int × Int)) (w : World) (hv : Pairs w v ls) (hl : ls.length ≤ 1000000) :
    Calls Tryz.prog 37 #[.agg #[v]] w fun e w' => (∃ u, e = .returned (.agg #[u]) ∧ Pairs w' u ls) ∧ Below w.heap.size w w' := by
  obtain ⟨i0, hi, hz0, hz1, hz2⟩ := info_parts Tryz.infoBranchR
  obtain ⟨n, hn⟩ : ∃ n, n = ls.length := ⟨_, rfl⟩
  obtain ⟨a, cp, rfl, _, hcs0⟩ := id hv
  rw [← hn] at hcs0 hl ⊢
  have hcs : ∀ k : Nat, k < n → ∃ b off x, a = some ⟨b, off, none⟩ ∧ ls[k]? = some x ∧ w.cell? ⟨b, off + k * 2, none⟩ = some (.int .i64 x.1) ∧ w.cell? ⟨b, off + k * 2 + 1, none⟩ = some (.int .i64 x.2) := fun k hk => by
    obtain ⟨b, off, rfl, hc⟩ := hcs0 (by omega)
    have e1 := hc k (ls[k]'(by omega)) (List.getElem?_eq_getElem (by omega))
    exact ⟨b, off, _, rfl, List.getElem?_eq_getElem (by omega), e1⟩
  have HC := Lib.hid hcs
  have HN := Lib.hid hn
  clear hv hcs0 hcs hn
  go_enter Tryz.func37, Tryz.ntmps37
  go_upto_region 2 with fail
  obtain ⟨W1, hW1⟩ : ∃ v, v = World.alloc w (Obj.cells #[.slice a n cp] 73) := ⟨_, rfl⟩
  have kW1 : Below w.heap.size w W1 := by rw [hW1]; exact below_new _ _
  have iW1 : Blk W1 (w.heap.size) 73 [.slice a n cp] := by rw [hW1]; exact Blk.new _ _ _
  have sW1 : W1.heap.size = w.heap.size + 1 := by rw [hW1]; simp
  rw [← hW1]
  clear hW1
  obtain ⟨W2, hW2⟩ : ∃ v, v = World.alloc W1 (Obj.cells #[.slice none 0 0] 67) := ⟨_, rfl⟩
  have kW2 : Below W1.heap.size W1 W2 := by rw [hW2]; exact below_new _ _
  have iW2 : Blk W2 (w.heap.size + 1) 67 [.slice none 0 0] := by rw [hW2, ← sW1]; exact Blk.new _ _ _
  have sW2 : W2.heap.size = w.heap.size + 1 + 1 := by rw [hW2]; simp [sW1]
  rw [← hW2]
  clear hW2
  obtain ⟨W3, hW3⟩ : ∃ v, v = World.alloc W2 (Obj.cells #[.slice none 0 0] 67) := ⟨_, rfl⟩
  have kW3 : Below W2.heap.size W2 W3 := by rw [hW3]; exact below_new _ _
  have iW3 : Blk W3 (w.heap.size + 1 + 1) 67 [.slice none 0 0] := by rw [hW3, ← sW2]; exact Blk.new _ _ _
  have sW3 : W3.heap.size = w.heap.size + 1 + 1 + 1 := by rw [hW3]; simp [sW2]
  rw [← hW3]
  clear hW3
  have a0 := ((iW1.carry kW2).carry kW3).cell (j := 0) (v := .slice a n cp) rfl
  have i2 := iW2.carry kW3
  have i3 := iW3
  have hB := bthen kW1 (bthen kW2 kW3)
  have hz : W3.heap.size = w.heap.size + 3 := by omega
  clear iW1 iW2 iW3 kW1 kW2 kW3 sW1 sW2 sW3
  have hB3 : Below W3.heap.size W3 W3 := Below.refl _ _
  have HB := Lib.hid hB
  have HI2 := Lib.hid i2
  go_wp2_with fail
  clear a0 hB i2
  go_loopw [9] (fun i wr => ∃ (k : Nat) (u : Value), k ≤ n ∧ i = .int .i64 k ∧ Blk wr (w.heap.size + 1 + 1) 67 [u] ∧ wr.ownsRow W3.heap.size 151 2 u k ((flat2 (ls.take k)).map (Value.int .i64)) ∧ Blk wr (w.heap.size + 1) 67 [.slice none 0 0] ∧ Below w.heap.size w wr) (fun i _ => n - (intOf i).toNat)
  case atStart => exact ⟨0, _, by omega, rfl, i3, World.ownsRow_nil _ _ _ _, HI2.out, HB.out⟩
  case round =>
    clear i3
    obtain ⟨k, u, hk, rfl, i3, hown, i2, hB⟩ := hrel
    have hsz : W3.heap.size ≤ wr.heap.size := by have := Blk.lt i3; omega
    by_cases hlt : k < n
    · obtain ⟨b, off, x, rfl, hx, c0, c1⟩ := HC.out k hlt
      have c0 := cellb c0 hB
      have c1 := cellb c1 hB
      have hts := flat2_take_succ ls k x hx
      have HTS := Lib.hid hts
      obtain ⟨x0, x1⟩ := x
      simp only at c0 c1
      have d1 : (k : Int) < (n : Int) := by omega
      clear hx hts
      go_upto_region 5 with fail
      obtain ⟨W5, hW5⟩ : ∃ v, v = World.alloc wr (Obj.cells #[.int .i64 x0, .int .i64 x1] 148) := ⟨_, rfl⟩
      have kW5 : Below wr.heap.size wr W5 := by rw [hW5]; exact below_new _ _
      have iW5 : Blk W5 (wr.heap.size) 148 [.int .i64 x0, .int .i64 x1] := by rw [hW5]; exact Blk.new _ _ _
      have sW5 : W5.heap.size = wr.heap.size + 1 := by rw [hW5]; simp
      rw [← hW5]
      clear hW5
      have b0 := iW5.cell (j := 0) (v := .int .i64 x0) rfl
      have b1 := iW5.cell (j := 1) (v := .int .i64 x1) rfl
      replace i3 := i3.carry kW5
      replace i2 := i2.carry kW5
      replace hown := own_below hown kW5
      replace hB := bthen hB kW5
      have hs5 := kW5.size
      have a3 := i3.cell (j := 0) (v := u) rfl
      have f3 := i3.frozen 0
      clear c0 c1 kW5 iW5 sW5
      go_wp2_with (at_builtin; refine wpList_append_own _ rfl _ _ 65 rfl W3.heap.size 151 i0 (.agg #[.int .i64 0, .int .i64 0]) 2 16 Tryz.undBranchesR hi hz0 hz1 hz2 rfl (by decide) _ _ _ rfl (hown.alloc _) ⟨W5.heap.size, 0, none⟩ 1 1 [.int .i64 x0, .int .i64 x1] rfl rfl (fun j u hj => (Blk.new W5 151 [.int .i64 x0, .int .i64 x1]).news j u hj) (by simp [Value.oneCell']) (by unfold maxLen; omega) (by omega) (by simp; omega) ?_; intro v' w6 hown6 hgrow6 _; obtain ⟨g9, gc9, rfl⟩ := ownsRow_succ2 hown6; have j3 := Blk.own_kept (i3.carry (below_new W5 (.cells #[.int .i64 x0, .int .i64 x1] 151))) (hown.alloc _) (by decide) hgrow6; have j2 := Blk.own_kept (i2.carry (below_new W5 (.cells #[.int .i64 x0, .int .i64 x1] 151))) (hown.alloc _) (by decide) hgrow6; have hB6 := (bthen hB (below_new W5 (.cells #[.int .i64 x0, .int .i64 x1] 151))).grown hgrow6 (by simp; omega) (fun k' hk' => by have := (World.ownsRow.lt hown k' hk').1; omega); have a3 := j3.cell (j := 0) (v := u) rfl; have f3 := j3.frozen 0)
      refine ⟨⟨k + 1, _, by omega, by go_num, j3.set 0 (.slice (some ⟨g9, 0, none⟩) (k + 1) gc9), ?_, j2.other (by omega) _, hB6.setCell (by simp; omega) _⟩, ?_⟩
      · rw [HTS.out]
        exact own_setCell hown6 (by omega)
      · simp [intOf]; omega
    · obtain rfl : k = n := by omega
      obtain ⟨ua, uc, rfl⟩ := ownsRow_slice hown
      have hP2 : Pairs (wr.setCell ⟨w.heap.size + 1, 0, none⟩ (.slice ua k uc)) (.slice ua k uc) ls := by
        have h9 := own_setCell (x := .slice ua k uc) (B := w.heap.size + 1) (j := 0) hown (by omega)
        rw [List.take_of_length_le (by rw [HN.out]; exact Nat.le_refl _)] at h9
        exact Pairs.of_own (l := ls) (base := W3.heap.size) (e := 151) (by rw [← HN.out]; exact h9)
      have a3 := i3.cell (j := 0) (v := .slice ua k uc) rfl
      have a2 := i2.cell (j := 0) (v := .slice none 0 0) rfl
      have f2 := i2.frozen 0
      have hl2 : w.heap.size + 1 < wr.heap.size := Blk.lt i2
      have HP2 := Lib.hid hP2
      clear hown hP2
      go_wp2_with fail
      have i9 := i2.set 0 (.slice ua k uc)
      have z0 := i9.cell (j := 0) (v := .slice ua k uc) rfl
      exact bodyPost_ret (v := .agg #[.slice ua k uc]) (by simp [results, Tryz.f37, go_sem, z0]) rfl ⟨⟨_, rfl, HP2.out⟩, hB.setCell (by simp) _⟩


theorem ShortR_any (v : Value) (ls : List (Int × Int)) (w : World) (hv : Pairs w v ls) :
    Calls Tryz.prog 28 #[.agg #[v]] w fun e w' => e = .returned (.bool (decide ((ls.length : Int) ≤ 4))) ∧ Below w.heap.size w w' := by
  obtain ⟨a, cp, rfl, _, _⟩ := hv
  go_enter Tryz.func28, Tryz.ntmps28
  go_upto_region 1 with fail
  obtain ⟨W1, hW1⟩ : ∃ v, v = World.alloc w (Obj.cells #[.slice a ls.length cp] 67) := ⟨_, rfl⟩
  have kW1 : Below w.heap.size w W1 := by rw [hW1]; exact below_new _ _
  have iW1 : Blk W1 (w.heap.size) 67 [.slice a ls.length cp] := by rw [hW1]; exact Blk.new _ _ _
  have sW1 : W1.heap.size = w.heap.size + 1 := by rw [hW1]; simp
  rw [← hW1]
  clear hW1
  have a0 := iW1.cell (j := 0) (v := .slice a ls.length cp) rfl
  go_wp2
  go_ret
  exact ⟨rfl, kW1⟩
set_option maxRecDepth 100000 in
set_option maxHeartbeats 4000000 in
theorem CheckFilterR_any (v : Value) (ls : List (Int × Int)) (w : World) (hv : Pairs w v ls) (hl : ls.length ≤ 1000000) :
    Calls Tryz.prog 32 #[.agg #[v]] w fun e w' => e = .returned (.int .i64 (fltE ls)) ∧ Below w.heap.size w w' := by
  obtain ⟨n, hn⟩ : ∃ n, n = ls.length := ⟨_, rfl⟩
  obtain ⟨a, cp, rfl, _, hcs0⟩ := id hv
  obtain ⟨E, hE⟩ : ∃ E, E = fltE ls := ⟨_, rfl⟩
  rw [← hE]
  rw [fltE, fltN] at hE
  rw [← hn] at hcs0 hl hE ⊢
  have hcs : ∀ k : Nat, k < n → ∃ b off x, a = some ⟨b, off, none⟩ ∧ ls[k]? = some x ∧ w.cell? ⟨b, off + k * 2, none⟩ = some (.int .i64 x.1) ∧ w.cell? ⟨b, off + k * 2 + 1, none⟩ = some (.int .i64 x.2) := fun k hk => by
    obtain ⟨b, off, rfl, hc⟩ := hcs0 (by omega)
    have e1 := hc k (ls[k]'(by omega)) (List.getElem?_eq_getElem (by omega))
    exact ⟨b, off, _, rfl, List.getElem?_eq_getElem (by omega), e1⟩
  have HC := Lib.hid hcs
  have HN := Lib.hid hn
  have T1 := Lib.hid (fun W => WhenR_any ((n : Int) == 0) 12 W)
  have T2 := Lib.hid (fun W => WhenR_any (decide ((3 : Int) < n)) 5 W)
  generalize hg1 : whenE ((n : Int) == 0) 12 = e1 at T1 hE
  generalize hg2 : whenE (decide ((3 : Int) < n)) 5 = e2 at T2 hE
  have TF := Lib.hid (fun (u : Value) (W : World) (h : Ints W u [e1, e2]) => FirstR_any u [e1, e2] W (by simp) h)
  generalize firstE [e1, e2] = eN at TF hE
  have HE := Lib.hid hE
  clear hv hcs0 hcs hn hE hg1 hg2
  go_enter Tryz.func32, Tryz.ntmps32
  go_upto_region 1 with fail
  obtain ⟨W1, hW1⟩ : ∃ v, v = World.alloc w (Obj.cells #[.slice a n cp] 67) := ⟨_, rfl⟩
  have kW1 : Below w.heap.size w W1 := by rw [hW1]; exact below_new _ _
  have iW1 : Blk W1 (w.heap.size) 67 [.slice a n cp] := by rw [hW1]; exact Blk.new _ _ _
  have sW1 : W1.heap.size = w.heap.size + 1 := by rw [hW1]; simp
  rw [← hW1]
  clear hW1
  have i1 := iW1
  have a0 := i1.cell (j := 0) (v := .slice a n cp) rfl
  have hB := kW1
  clear iW1 kW1 sW1
  refine wp_region_E 99 (by kernel_rfl) ?_
  obtain ⟨wz, hwz⟩ : ∃ v, v = W1.drew := ⟨_, rfl⟩
  rw [← hwz]
  have hlz : Below W1.heap.size W1 wz := by rw [hwz]; exact (Below.refl _ _).drew
  have hbz := bthen hB hlz
  have a0 := cellb a0 hlz
  have i1 := i1.carry hlz
  clear hwz hlz
  refine wpAnyE_take (i := 0) (oi := { dst := some 7, op := Op.fieldAddr 67 (Operand.tmp 1) 0, type := 0, pos := "ref.go:253", after := #[], guard := none }) (v := ?_) rfl (by kernel_rfl) (by kernel_rfl) (by kernel_rfl) (by kernel_rfl) (fun _ _ _ h => h) (Or.inl ⟨by rfl, ?_⟩) ?_
  rotate_left
  · (intro w hE; have a0 := cellb a0 hE; (try dsimp only); go_simp); (try with_reducible rfl)
  try simp only [Act.put, List.setIfInBounds_toArray, List.set_cons_zero, List.set_cons_succ]
  refine wpAnyE_take (i := 1) (oi := { dst := some 8, op := Op.load 65 (Operand.tmp 7), type := 65, pos := "ref.go:253", after := #[{ on := 0, ground := Ground.data }], guard := none }) (v := ?_) rfl (by kernel_rfl) (by kernel_rfl) (by kernel_rfl) (by kernel_rfl) (fun _ _ _ h => h) (Or.inl ⟨by rfl, ?_⟩) ?_
  rotate_left
  · (intro w hE; have a0 := cellb a0 hE; (try dsimp only); go_simp); (try with_reducible rfl)
  try simp only [Act.put, List.setIfInBounds_toArray, List.set_cons_zero, List.set_cons_succ]
  refine wpAnyE_take (i := 2) (oi := { dst := some 9, op := Op.call { callee := Callee.builtin Builtin.len, args := #[Operand.tmp 8], argTypes := #[65] }, type := 3, pos := "ref.go:253", after := #[{ on := 1, ground := Ground.data }], guard := none }) (v := ?_) rfl (by kernel_rfl) (by kernel_rfl) (by kernel_rfl) (by kernel_rfl) (fun _ _ _ h => h) (Or.inl ⟨by rfl, ?_⟩) ?_
  rotate_left
  · (intro w hE; have a0 := cellb a0 hE; (try dsimp only); go_simp); (try with_reducible rfl)
  try simp only [Act.put, List.setIfInBounds_toArray, List.set_cons_zero, List.set_cons_succ]
  refine wpAnyE_take (i := 3) (oi := { dst := some 10, op := Op.binOp BinOp.eql 3 (Operand.tmp 9) (Operand.const (Value.int IntKind.i64 0)) 3, type := 4, pos := "ref.go:253", after := #[{ on := 2, ground := Ground.data }], guard := none }) (v := ?_) rfl (by kernel_rfl) (by kernel_rfl) (by kernel_rfl) (by kernel_rfl) (fun _ _ _ h => h) (Or.inl ⟨by rfl, ?_⟩) ?_
  rotate_left
  · (intro w hE; have a0 := cellb a0 hE; (try dsimp only); go_simp); (try with_reducible rfl)
  try simp only [Act.put, List.setIfInBounds_toArray, List.set_cons_zero, List.set_cons_succ]
  refine wpAnyE_take (i := 5) (oi := { dst := some 12, op := Op.fieldAddr 67 (Operand.tmp 1) 0, type := 0, pos := "ref.go:253", after := #[], guard := none }) (v := ?_) rfl (by kernel_rfl) (by kernel_rfl) (by kernel_rfl) (by kernel_rfl) (fun _ _ _ h => h) (Or.inl ⟨by rfl, ?_⟩) ?_
  rotate_left
  · (intro w hE; have a0 := cellb a0 hE; (try dsimp only); go_simp); (try with_reducible rfl)
  try simp only [Act.put, List.setIfInBounds_toArray, List.set_cons_zero, List.set_cons_succ]
  refine wpAnyE_take (i := 6) (oi := { dst := some 13, op := Op.load 65 (Operand.tmp 12), type := 65, pos := "ref.go:253", after := #[{ on := 5, ground := Ground.data }], guard := none }) (v := ?_) rfl (by kernel_rfl) (by kernel_rfl) (by kernel_rfl) (by kernel_rfl) (fun _ _ _ h => h) (Or.inl ⟨by rfl, ?_⟩) ?_
  rotate_left
  · (intro w hE; have a0 := cellb a0 hE; (try dsimp only); go_simp); (try with_reducible rfl)
  try simp only [Act.put, List.setIfInBounds_toArray, List.set_cons_zero, List.set_cons_succ]
  refine wpAnyE_take (i := 7) (oi := { dst := some 14, op := Op.call { callee := Callee.builtin Builtin.len, args := #[Operand.tmp 13], argTypes := #[65] }, type := 3, pos := "ref.go:253", after := #[{ on := 6, ground := Ground.data }], guard := none }) (v := ?_) rfl (by kernel_rfl) (by kernel_rfl) (by kernel_rfl) (by kernel_rfl) (fun _ _ _ h => h) (Or.inl ⟨by rfl, ?_⟩) ?_
  rotate_left
  · (intro w hE; have a0 := cellb a0 hE; (try dsimp only); go_simp); (try with_reducible rfl)
  try simp only [Act.put, List.setIfInBounds_toArray, List.set_cons_zero, List.set_cons_succ]
  refine wpAnyE_take (i := 8) (oi := { dst := some 15, op := Op.binOp BinOp.gtr 3 (Operand.tmp 14) (Operand.const (Value.int IntKind.i64 3)) 3, type := 4, pos := "ref.go:253", after := #[{ on := 7, ground := Ground.data }], guard := none }) (v := ?_) rfl (by kernel_rfl) (by kernel_rfl) (by kernel_rfl) (by kernel_rfl) (fun _ _ _ h => h) (Or.inl ⟨by rfl, ?_⟩) ?_
  rotate_left
  · (intro w hE; have a0 := cellb a0 hE; (try dsimp only); go_simp); (try with_reducible rfl)
  try simp only [Act.put, List.setIfInBounds_toArray, List.set_cons_zero, List.set_cons_succ]
  refine wpAnyE_call (i := 4) (oi := { dst := some 11, op := Op.call { callee := Callee.value (Operand.func 72), args := #[Operand.tmp 10, Operand.const (Value.int IntKind.i64 12)], argTypes := #[4, 3] }, type := 3, pos := "ref.go:253", after := #[{ on := 3, ground := Ground.data }], guard := none }) (fun w hE => ofPure (T1.out w)) rfl (by kernel_rfl) (by kernel_rfl) (by kernel_rfl) (by kernel_rfl) (fun _ _ _ h => h) (by rfl) (fun w hE => by (try dsimp only); go_simp) ?_
  try simp only [Act.put, List.setIfInBounds_toArray, List.set_cons_zero, List.set_cons_succ]
  refine wpAnyE_call (i := 9) (oi := { dst := some 16, op := Op.call { callee := Callee.value (Operand.func 72), args := #[Operand.tmp 15, Operand.const (Value.int IntKind.i64 5)], argTypes := #[4, 3] }, type := 3, pos := "ref.go:253", after := #[{ on := 8, ground := Ground.data }, { on := 4, ground := Ground.chain }], guard := none }) (fun w hE => ofPure (T2.out w)) rfl (by kernel_rfl) (by kernel_rfl) (by kernel_rfl) (by kernel_rfl) (fun _ _ _ h => h) (by rfl) (fun w hE => by (try dsimp only); go_simp) ?_
  try simp only [Act.put, List.setIfInBounds_toArray, List.set_cons_zero, List.set_cons_succ]
  refine wpAnyE_one (i := 10) (o := { dst := some 17, op := Op.buildSlice 91 2 #[(0, Operand.tmp 11), (1, Operand.tmp 16)], type := 91, pos := "ref.go:253", after := #[{ on := 4, ground := Ground.data }, { on := 9, ground := Ground.data }], guard := none }) (by kernel_rfl) rfl (fun wy1 hE K hK => ?_)
  have a0 := cellb a0 hE
  have i1 := i1.carry hE
  have hbz1 := bthen hbz hE
  clear hE
  go_simp
  obtain ⟨wx1, hwz⟩ : ∃ v, v = wy1.alloc (Obj.cells #[.int .i64 e1, .int .i64 e2] 3) := ⟨_, rfl⟩
  rw [← hwz]
  have hl : Below wy1.heap.size wy1 wx1 := by rw [hwz]; exact below_new _ _
  have hcz1 := bthen hbz1 hl
  have iN : BlkI wx1 wy1.heap.size 3 [e1, e2] := by rw [hwz]; exact Blk.new _ _ _
  generalize wy1.heap.size = G at iN ⊢
  have a0 := cellb a0 hl
  have i1 := i1.carry hl
  clear hwz
  refine hK _ _ (fun _ => hl) ?_
  clear hK K hl
  try simp only [Act.put, List.setIfInBounds_toArray, List.set_cons_zero, List.set_cons_succ]
  refine wpAnyE_call (i := 11) (oi := { dst := some 18, op := Op.call { callee := Callee.value (Operand.func 64), args := #[Operand.tmp 17], argTypes := #[91] }, type := 3, pos := "ref.go:253", after := #[{ on := 10, ground := Ground.data }, { on := 9, ground := Ground.chain }], guard := none }) (fun w hE => ofPure (TF.out _ w ((BlkI.ints iN rfl).carry hE))) rfl (by kernel_rfl) (by kernel_rfl) (by kernel_rfl) (by kernel_rfl) (fun _ _ _ h => h) (by rfl) (fun w hE => by (try dsimp only); go_simp) ?_
  try simp only [Act.put, List.setIfInBounds_toArray, List.set_cons_zero, List.set_cons_succ]
  refine wpAnyE_take (i := 12) (oi := { dst := some 3, op := Op.assign (Operand.tmp 18), type := 3, pos := "ref.go:253", after := #[{ on := 11, ground := Ground.data }, { on := 11, ground := Ground.chain }, { on := 0, ground := Ground.phase }, { on := 1, ground := Ground.phase }, { on := 2, ground := Ground.phase }, { on := 3, ground := Ground.phase }, { on := 4, ground := Ground.phase }, { on := 5, ground := Ground.phase }, { on := 6, ground := Ground.phase }, { on := 7, ground := Ground.phase }, { on := 8, ground := Ground.phase }, { on := 9, ground := Ground.phase }, { on := 10, ground := Ground.phase }, { on := 11, ground := Ground.phase }], guard := none }) (v := ?_) rfl (by kernel_rfl) (by kernel_rfl) (by kernel_rfl) (by kernel_rfl) (fun _ _ _ h => h) (Or.inl ⟨by rfl, ?_⟩) ?_
  rotate_left
  · (intro w hE; have a0 := cellb a0 hE; (try dsimp only); go_simp); (try with_reducible rfl)
  try simp only [Act.put, List.setIfInBounds_toArray, List.set_cons_zero, List.set_cons_succ]
  refine wpAnyE_done (by kernel_rfl) (fun wy2 hE => ?_) _
  have hbz2 := bthen hcz1 hE
  have a0 := cellb a0 hE
  have i1 := i1.carry hE
  clear hE
  have hB := hbz2
  obtain ⟨W5, hW5⟩ : ∃ v, v = wy2 := ⟨_, rfl⟩
  rw [← hW5] at hB i1 ⊢
  clear hW5 a0
  clear T1 T2 TF
  by_cases he : eN = 0
  · subst he
    have hE := HE.out
    rw [orE, if_pos rfl] at hE
    have HE2 := Lib.hid hE
    clear HE hE
    go_wp2_with fail
    go_loopw [4] (fun i wr => ∃ k : Nat, k ≤ n ∧ i = .int .i64 k ∧ firstE ((ls.map brE).take k) = 0 ∧ Blk wr w.heap.size 67 [.slice a n cp] ∧ Below w.heap.size w wr) (fun i _ => n - (intOf i).toNat)
    case atStart => exact ⟨0, by omega, rfl, rfl, i1, hB⟩
    case round =>
      clear hB i1
      obtain ⟨k, hk, rfl, hf, i1, hB⟩ := hrel
      have a0 := i1.cell (j := 0) (v := .slice a n cp) rfl
      by_cases hlt : k < n
      · obtain ⟨b, off, x, rfl, hx, c0, c1⟩ := HC.out k hlt
        have c0 := cellb c0 hB
        have c1 := cellb c1 hB
        have hlm : k < (ls.map brE).length := by rw [List.length_map, ← HN.out]; exact hlt
        have hs := firstE_take_succ (ls.map brE) k hlm hf
        have hxv : (ls.map brE)[k]?.getD 0 = brE x := by rw [List.getElem?_map, hx]; rfl
        rw [hxv, brE] at hs
        obtain ⟨L, C⟩ := x
        simp only at c0 c1 hs
        have R1 := Lib.hid (fun W => CheckRange_any L 0 50 W)
        have R2 := Lib.hid (fun W => CheckRange_any C 0 2000 W)
        have R3 := Lib.hid (fun W => WhenR_any (L == 0 && C == 0) 6 W)
        generalize hbb : (L == 0 && C == 0) = bb at R3 hs
        generalize withinE L 0 50 = s1 at R1 hs
        generalize withinE C 0 2000 = s2 at R2 hs
        generalize whenE bb 6 = s3 at R3 hs
        have RF := Lib.hid (fun (u : Value) (W : World) (h : Ints W u [s1, s2, s3]) => FirstR_any u [s1, s2, s3] W (by simp) h)
        generalize firstE [s1, s2, s3] = px at RF hs
        have HS := Lib.hid hs
        have HBB := Lib.hid hbb
        have d1 : (k : Int) < n := by omega
        clear hx hf hs hxv hbb
        go_upto_region 8 with fail
        obtain ⟨W6, hW6⟩ : ∃ v, v = World.alloc wr (Obj.cells #[.int .i64 L, .int .i64 C] 151) := ⟨_, rfl⟩
        have kW6 : Below wr.heap.size wr W6 := by rw [hW6]; exact below_new _ _
        have iW6 : Blk W6 (wr.heap.size) 151 [.int .i64 L, .int .i64 C] := by rw [hW6]; exact Blk.new _ _ _
        have sW6 : W6.heap.size = wr.heap.size + 1 := by rw [hW6]; simp
        rw [← hW6]
        clear hW6
        have b0 := iW6.cell (j := 0) (v := .int .i64 L) rfl
        have b1 := iW6.cell (j := 1) (v := .int .i64 C) rfl
        replace i1 := i1.carry kW6
        replace hB := bthen hB kW6
        obtain ⟨B6, hB6⟩ : ∃ B, B = wr.heap.size := ⟨_, rfl⟩
        rw [← hB6] at b0 b1 ⊢
        clear kW6 iW6 sW6 hB6 c0 c1 a0
        go_cut [6] from 34 to 50 (fun u6 wn => u6 = .int .i64 px ∧ Blk wn w.heap.size 67 [.slice (some ⟨b, off, none⟩) n cp] ∧ Below w.heap.size w wn)
        case first =>
          by_cases hL : L = 0
          · subst hL
            obtain rfl : (C == 0) = bb := by rw [← HBB.out]; simp
            clear HBB
            refine wp_region_E 99 (by kernel_rfl) ?_
            obtain ⟨wz, hwz⟩ : ∃ v, v = W6.drew := ⟨_, rfl⟩
            rw [← hwz]
            have hlz : Below W6.heap.size W6 wz := by rw [hwz]; exact (Below.refl _ _).drew
            have hbz := bthen hB hlz
            have b0 := cellb b0 hlz
            have b1 := cellb b1 hlz
            have i1 := i1.carry hlz
            clear hwz hlz
            refine wpAnyE_take (i := 0) (oi := { dst := some 34, op := Op.fieldAddr 151 (Operand.tmp 5) 0, type := 0, pos := "ref.go:258", after := #[], guard := none }) (v := ?_) rfl (by kernel_rfl) (by kernel_rfl) (by kernel_rfl) (by kernel_rfl) (fun _ _ _ h => h) (Or.inl ⟨by rfl, ?_⟩) ?_
            rotate_left
            · (intro w hE; have b0 := cellb b0 hE; have b1 := cellb b1 hE; (try dsimp only); go_simp); (try with_reducible rfl)
            try simp only [Act.put, List.setIfInBounds_toArray, List.set_cons_zero, List.set_cons_succ]
            refine wpAnyE_take (i := 1) (oi := { dst := some 35, op := Op.load 3 (Operand.tmp 34), type := 3, pos := "ref.go:258", after := #[{ on := 0, ground := Ground.data }], guard := none }) (v := ?_) rfl (by kernel_rfl) (by kernel_rfl) (by kernel_rfl) (by kernel_rfl) (fun _ _ _ h => h) (Or.inl ⟨by rfl, ?_⟩) ?_
            rotate_left
            · (intro w hE; have b0 := cellb b0 hE; have b1 := cellb b1 hE; (try dsimp only); go_simp); (try with_reducible rfl)
            try simp only [Act.put, List.setIfInBounds_toArray, List.set_cons_zero, List.set_cons_succ]
            refine wpAnyE_take (i := 3) (oi := { dst := some 37, op := Op.fieldAddr 151 (Operand.tmp 5) 1, type := 0, pos := "ref.go:258", after := #[], guard := none }) (v := ?_) rfl (by kernel_rfl) (by kernel_rfl) (by kernel_rfl) (by kernel_rfl) (fun _ _ _ h => h) (Or.inl ⟨by rfl, ?_⟩) ?_
            rotate_left
            · (intro w hE; have b0 := cellb b0 hE; have b1 := cellb b1 hE; (try dsimp only); go_simp); (try with_reducible rfl)
            try simp only [Act.put, List.setIfInBounds_toArray, List.set_cons_zero, List.set_cons_succ]
            refine wpAnyE_take (i := 4) (oi := { dst := some 38, op := Op.load 3 (Operand.tmp 37), type := 3, pos := "ref.go:258", after := #[{ on := 3, ground := Ground.data }], guard := none }) (v := ?_) rfl (by kernel_rfl) (by kernel_rfl) (by kernel_rfl) (by kernel_rfl) (fun _ _ _ h => h) (Or.inl ⟨by rfl, ?_⟩) ?_
            rotate_left
            · (intro w hE; have b0 := cellb b0 hE; have b1 := cellb b1 hE; (try dsimp only); go_simp); (try with_reducible rfl)
            try simp only [Act.put, List.setIfInBounds_toArray, List.set_cons_zero, List.set_cons_succ]
            refine wpAnyE_take (i := 6) (oi := { dst := some 40, op := Op.fieldAddr 151 (Operand.tmp 5) 0, type := 0, pos := "ref.go:258", after := #[], guard := none }) (v := ?_) rfl (by kernel_rfl) (by kernel_rfl) (by kernel_rfl) (by kernel_rfl) (fun _ _ _ h => h) (Or.inl ⟨by rfl, ?_⟩) ?_
            rotate_left
            · (intro w hE; have b0 := cellb b0 hE; have b1 := cellb b1 hE; (try dsimp only); go_simp); (try with_reducible rfl)
            try simp only [Act.put, List.setIfInBounds_toArray, List.set_cons_zero, List.set_cons_succ]
            refine wpAnyE_take (i := 7) (oi := { dst := some 41, op := Op.load 3 (Operand.tmp 40), type := 3, pos := "ref.go:258", after := #[{ on := 6, ground := Ground.data }], guard := none }) (v := ?_) rfl (by kernel_rfl) (by kernel_rfl) (by kernel_rfl) (by kernel_rfl) (fun _ _ _ h => h) (Or.inl ⟨by rfl, ?_⟩) ?_
            rotate_left
            · (intro w hE; have b0 := cellb b0 hE; have b1 := cellb b1 hE; (try dsimp only); go_simp); (try with_reducible rfl)
            try simp only [Act.put, List.setIfInBounds_toArray, List.set_cons_zero, List.set_cons_succ]
            refine wpAnyE_take (i := 8) (oi := { dst := some 42, op := Op.binOp BinOp.eql 3 (Operand.tmp 41) (Operand.const (Value.int IntKind.i64 0)) 3, type := 4, pos := "ref.go:258", after := #[{ on := 7, ground := Ground.data }], guard := none }) (v := ?_) rfl (by kernel_rfl) (by kernel_rfl) (by kernel_rfl) (by kernel_rfl) (fun _ _ _ h => h) (Or.inl ⟨by rfl, ?_⟩) ?_
            rotate_left
            · (intro w hE; have b0 := cellb b0 hE; have b1 := cellb b1 hE; (try dsimp only); go_simp); (try with_reducible rfl)
            try simp only [Act.put, List.setIfInBounds_toArray, List.set_cons_zero, List.set_cons_succ]
            refine wpAnyE_call (i := 2) (oi := { dst := some 36, op := Op.call { callee := Callee.value (Operand.func 25), args := #[Operand.tmp 35, Operand.const (Value.int IntKind.i64 0), Operand.const (Value.int IntKind.i64 50)], argTypes := #[3, 3, 3] }, type := 3, pos := "ref.go:258", after := #[{ on := 1, ground := Ground.data }], guard := none }) (fun w hE => ofPure (R1.out w)) rfl (by kernel_rfl) (by kernel_rfl) (by kernel_rfl) (by kernel_rfl) (fun _ _ _ h => h) (by rfl) (fun w hE => by (try dsimp only); go_simp) ?_
            try simp only [Act.put, List.setIfInBounds_toArray, List.set_cons_zero, List.set_cons_succ]
            refine wpAnyE_call (i := 5) (oi := { dst := some 39, op := Op.call { callee := Callee.value (Operand.func 25), args := #[Operand.tmp 38, Operand.const (Value.int IntKind.i64 0), Operand.const (Value.int IntKind.i64 2000)], argTypes := #[3, 3, 3] }, type := 3, pos := "ref.go:258", after := #[{ on := 4, ground := Ground.data }, { on := 2, ground := Ground.chain }], guard := none }) (fun w hE => ofPure (R2.out w)) rfl (by kernel_rfl) (by kernel_rfl) (by kernel_rfl) (by kernel_rfl) (fun _ _ _ h => h) (by rfl) (fun w hE => by (try dsimp only); go_simp) ?_
            try simp only [Act.put, List.setIfInBounds_toArray, List.set_cons_zero, List.set_cons_succ]
            refine wpAnyE_take (i := 9) (oi := { dst := some 43, op := Op.move (Operand.tmp 42), type := 4, pos := "ref.go:258", after := #[{ on := 8, ground := Ground.data }, { on := 5, ground := Ground.chain }], guard := none }) (v := ?_) rfl (by kernel_rfl) (by kernel_rfl) (by kernel_rfl) (by kernel_rfl) (fun _ _ _ h => h) (Or.inl ⟨by rfl, ?_⟩) ?_
            rotate_left
            · (intro w hE; have b0 := cellb b0 hE; have b1 := cellb b1 hE; (try dsimp only); go_simp); (try with_reducible rfl)
            try simp only [Act.put, List.setIfInBounds_toArray, List.set_cons_zero, List.set_cons_succ]
            refine wpAnyE_take (i := 10) (oi := { dst := some 44, op := Op.fieldAddr 151 (Operand.tmp 5) 1, type := 0, pos := "ref.go:258", after := #[{ on := 9, ground := Ground.guard }], guard := some (9, true) }) (v := ?_) rfl (by kernel_rfl) (by kernel_rfl) (by kernel_rfl) (by kernel_rfl) (fun _ _ _ h => h) (Or.inl ⟨by rfl, ?_⟩) ?_
            rotate_left
            · (intro w hE; have b0 := cellb b0 hE; have b1 := cellb b1 hE; (try dsimp only); go_simp); (try with_reducible rfl)
            try simp only [Act.put, List.setIfInBounds_toArray, List.set_cons_zero, List.set_cons_succ]
            refine wpAnyE_take (i := 11) (oi := { dst := some 45, op := Op.load 3 (Operand.tmp 44), type := 3, pos := "ref.go:258", after := #[{ on := 10, ground := Ground.data }, { on := 9, ground := Ground.guard }], guard := some (9, true) }) (v := ?_) rfl (by kernel_rfl) (by kernel_rfl) (by kernel_rfl) (by kernel_rfl) (fun _ _ _ h => h) (Or.inl ⟨by rfl, ?_⟩) ?_
            rotate_left
            · (intro w hE; have b0 := cellb b0 hE; have b1 := cellb b1 hE; (try dsimp only); go_simp); (try with_reducible rfl)
            try simp only [Act.put, List.setIfInBounds_toArray, List.set_cons_zero, List.set_cons_succ]
            refine wpAnyE_take (i := 12) (oi := { dst := some 46, op := Op.binOp BinOp.eql 3 (Operand.tmp 45) (Operand.const (Value.int IntKind.i64 0)) 3, type := 4, pos := "ref.go:258", after := #[{ on := 11, ground := Ground.data }, { on := 9, ground := Ground.guard }], guard := some (9, true) }) (v := ?_) rfl (by kernel_rfl) (by kernel_rfl) (by kernel_rfl) (by kernel_rfl) (fun _ _ _ h => h) (Or.inl ⟨by rfl, ?_⟩) ?_
            rotate_left
            · (intro w hE; have b0 := cellb b0 hE; have b1 := cellb b1 hE; (try dsimp only); go_simp); (try with_reducible rfl)
            try simp only [Act.put, List.setIfInBounds_toArray, List.set_cons_zero, List.set_cons_succ]
            refine wpAnyE_take (i := 13) (oi := { dst := some 47, op := Op.pick (Operand.tmp 43) (Operand.tmp 46) (Operand.const (Value.bool false)), type := 4, pos := "ref.go:258", after := #[{ on := 9, ground := Ground.data }, { on := 12, ground := Ground.data }], guard := none }) (v := ?_) rfl (by kernel_rfl) (by kernel_rfl) (by kernel_rfl) (by kernel_rfl) (fun _ _ _ h => h) (Or.inl ⟨by rfl, ?_⟩) ?_
            rotate_left
            · (intro w hE; have b0 := cellb b0 hE; have b1 := cellb b1 hE; (try dsimp only); go_simp); (try with_reducible rfl)
            try simp only [Act.put, List.setIfInBounds_toArray, List.set_cons_zero, List.set_cons_succ]
            refine wpAnyE_call (i := 14) (oi := { dst := some 48, op := Op.call { callee := Callee.value (Operand.func 72), args := #[Operand.tmp 47, Operand.const (Value.int IntKind.i64 6)], argTypes := #[4, 3] }, type := 3, pos := "ref.go:258", after := #[{ on := 13, ground := Ground.data }, { on := 9, ground := Ground.chain }], guard := none }) (fun w hE => ofPure (R3.out w)) rfl (by kernel_rfl) (by kernel_rfl) (by kernel_rfl) (by kernel_rfl) (fun _ _ _ h => h) (by rfl) (fun w hE => by (try dsimp only); go_simp) ?_
            try simp only [Act.put, List.setIfInBounds_toArray, List.set_cons_zero, List.set_cons_succ]
            refine wpAnyE_one (i := 15) (o := { dst := some 49, op := Op.buildSlice 91 3 #[(0, Operand.tmp 36), (1, Operand.tmp 39), (2, Operand.tmp 48)], type := 91, pos := "ref.go:258", after := #[{ on := 2, ground := Ground.data }, { on := 5, ground := Ground.data }, { on := 14, ground := Ground.data }], guard := none }) (by kernel_rfl) rfl (fun wy1 hE K hK => ?_)
            have b0 := cellb b0 hE
            have b1 := cellb b1 hE
            have i1 := i1.carry hE
            have hbz1 := bthen hbz hE
            clear hE
            go_simp
            obtain ⟨wx1, hwz⟩ : ∃ v, v = wy1.alloc (Obj.cells #[.int .i64 s1, .int .i64 s2, .int .i64 s3] 3) := ⟨_, rfl⟩
            rw [← hwz]
            have hl : Below wy1.heap.size wy1 wx1 := by rw [hwz]; exact below_new _ _
            have hcz1 := bthen hbz1 hl
            have iN : BlkI wx1 wy1.heap.size 3 [s1, s2, s3] := by rw [hwz]; exact Blk.new _ _ _
            generalize wy1.heap.size = G at iN ⊢
            have b0 := cellb b0 hl
            have b1 := cellb b1 hl
            have i1 := i1.carry hl
            clear hwz
            refine hK _ _ (fun _ => hl) ?_
            clear hK K hl
            try simp only [Act.put, List.setIfInBounds_toArray, List.set_cons_zero, List.set_cons_succ]
            refine wpAnyE_call (i := 16) (oi := { dst := some 50, op := Op.call { callee := Callee.value (Operand.func 64), args := #[Operand.tmp 49], argTypes := #[91] }, type := 3, pos := "ref.go:258", after := #[{ on := 15, ground := Ground.data }, { on := 14, ground := Ground.chain }], guard := none }) (fun w hE => ofPure (RF.out _ w ((BlkI.ints iN rfl).carry hE))) rfl (by kernel_rfl) (by kernel_rfl) (by kernel_rfl) (by kernel_rfl) (fun _ _ _ h => h) (by rfl) (fun w hE => by (try dsimp only); go_simp) ?_
            try simp only [Act.put, List.setIfInBounds_toArray, List.set_cons_zero, List.set_cons_succ]
            refine wpAnyE_take (i := 17) (oi := { dst := some 6, op := Op.assign (Operand.tmp 50), type := 3, pos := "ref.go:258", after := #[{ on := 16, ground := Ground.data }, { on := 16, ground := Ground.chain }, { on := 0, ground := Ground.phase }, { on := 1, ground := Ground.phase }, { on := 2, ground := Ground.phase }, { on := 3, ground := Ground.phase }, { on := 4, ground := Ground.phase }, { on := 5, ground := Ground.phase }, { on := 6, ground := Ground.phase }, { on := 7, ground := Ground.phase }, { on := 8, ground := Ground.phase }, { on := 9, ground := Ground.phase }, { on := 10, ground := Ground.phase }, { on := 11, ground := Ground.phase }, { on := 12, ground := Ground.phase }, { on := 13, ground := Ground.phase }, { on := 14, ground := Ground.phase }, { on := 15, ground := Ground.phase }, { on := 16, ground := Ground.phase }], guard := none }) (v := ?_) rfl (by kernel_rfl) (by kernel_rfl) (by kernel_rfl) (by kernel_rfl) (fun _ _ _ h => h) (Or.inl ⟨by rfl, ?_⟩) ?_
            rotate_left
            · (intro w hE; have b0 := cellb b0 hE; have b1 := cellb b1 hE; (try dsimp only); go_simp); (try with_reducible rfl)
            try simp only [Act.put, List.setIfInBounds_toArray, List.set_cons_zero, List.set_cons_succ]
            refine wpAnyE_done (by kernel_rfl) (fun wy2 hE => ?_) _
            have hbz2 := bthen hcz1 hE
            have b0 := cellb b0 hE
            have b1 := cellb b1 hE
            have i1 := i1.carry hE
            clear hE
            have hB := hbz2
            go_wp2_with fail
            go_meet
            exact ⟨rfl, i1, hB⟩
          · have hLb : (L == 0) = false := by rw [beq_eq_false_iff_ne]; exact hL
            obtain rfl : bb = false := by rw [← HBB.out, hLb]; rfl
            clear HBB
            refine wp_region_E 99 (by kernel_rfl) ?_
            obtain ⟨wz, hwz⟩ : ∃ v, v = W6.drew := ⟨_, rfl⟩
            rw [← hwz]
            have hlz : Below W6.heap.size W6 wz := by rw [hwz]; exact (Below.refl _ _).drew
            have hbz := bthen hB hlz
            have b0 := cellb b0 hlz
            have b1 := cellb b1 hlz
            have i1 := i1.carry hlz
            clear hwz hlz
            refine wpAnyE_take (i := 0) (oi := { dst := some 34, op := Op.fieldAddr 151 (Operand.tmp 5) 0, type := 0, pos := "ref.go:258", after := #[], guard := none }) (v := ?_) rfl (by kernel_rfl) (by kernel_rfl) (by kernel_rfl) (by kernel_rfl) (fun _ _ _ h => h) (Or.inl ⟨by rfl, ?_⟩) ?_
            rotate_left
            · (intro w hE; have b0 := cellb b0 hE; have b1 := cellb b1 hE; (try dsimp only); go_simp); (try with_reducible rfl)
            try simp only [Act.put, List.setIfInBounds_toArray, List.set_cons_zero, List.set_cons_succ]
            refine wpAnyE_take (i := 1) (oi := { dst := some 35, op := Op.load 3 (Operand.tmp 34), type := 3, pos := "ref.go:258", after := #[{ on := 0, ground := Ground.data }], guard := none }) (v := ?_) rfl (by kernel_rfl) (by kernel_rfl) (by kernel_rfl) (by kernel_rfl) (fun _ _ _ h => h) (Or.inl ⟨by rfl, ?_⟩) ?_
            rotate_left
            · (intro w hE; have b0 := cellb b0 hE; have b1 := cellb b1 hE; (try dsimp only); go_simp); (try with_reducible rfl)
            try simp only [Act.put, List.setIfInBounds_toArray, List.set_cons_zero, List.set_cons_succ]
            refine wpAnyE_take (i := 3) (oi := { dst := some 37, op := Op.fieldAddr 151 (Operand.tmp 5) 1, type := 0, pos := "ref.go:258", after := #[], guard := none }) (v := ?_) rfl (by kernel_rfl) (by kernel_rfl) (by kernel_rfl) (by kernel_rfl) (fun _ _ _ h => h) (Or.inl ⟨by rfl, ?_⟩) ?_
            rotate_left
            · (intro w hE; have b0 := cellb b0 hE; have b1 := cellb b1 hE; (try dsimp only); go_simp); (try with_reducible rfl)
            try simp only [Act.put, List.setIfInBounds_toArray, List.set_cons_zero, List.set_cons_succ]
            refine wpAnyE_take (i := 4) (oi := { dst := some 38, op := Op.load 3 (Operand.tmp 37), type := 3, pos := "ref.go:258", after := #[{ on := 3, ground := Ground.data }], guard := none }) (v := ?_) rfl (by kernel_rfl) (by kernel_rfl) (by kernel_rfl) (by kernel_rfl) (fun _ _ _ h => h) (Or.inl ⟨by rfl, ?_⟩) ?_
            rotate_left
            · (intro w hE; have b0 := cellb b0 hE; have b1 := cellb b1 hE; (try dsimp only); go_simp); (try with_reducible rfl)
            try simp only [Act.put, List.setIfInBounds_toArray, List.set_cons_zero, List.set_cons_succ]
            refine wpAnyE_take (i := 6) (oi := { dst := some 40, op := Op.fieldAddr 151 (Operand.tmp 5) 0, type := 0, pos := "ref.go:258", after := #[], guard := none }) (v := ?_) rfl (by kernel_rfl) (by kernel_rfl) (by kernel_rfl) (by kernel_rfl) (fun _ _ _ h => h) (Or.inl ⟨by rfl, ?_⟩) ?_
            rotate_left
            · (intro w hE; have b0 := cellb b0 hE; have b1 := cellb b1 hE; (try dsimp only); go_simp); (try with_reducible rfl)
            try simp only [Act.put, List.setIfInBounds_toArray, List.set_cons_zero, List.set_cons_succ]
            refine wpAnyE_take (i := 7) (oi := { dst := some 41, op := Op.load 3 (Operand.tmp 40), type := 3, pos := "ref.go:258", after := #[{ on := 6, ground := Ground.data }], guard := none }) (v := ?_) rfl (by kernel_rfl) (by kernel_rfl) (by kernel_rfl) (by kernel_rfl) (fun _ _ _ h => h) (Or.inl ⟨by rfl, ?_⟩) ?_
            rotate_left
            · (intro w hE; have b0 := cellb b0 hE; have b1 := cellb b1 hE; (try dsimp only); go_simp); (try with_reducible rfl)
            try simp only [Act.put, List.setIfInBounds_toArray, List.set_cons_zero, List.set_cons_succ]
            refine wpAnyE_take (i := 8) (oi := { dst := some 42, op := Op.binOp BinOp.eql 3 (Operand.tmp 41) (Operand.const (Value.int IntKind.i64 0)) 3, type := 4, pos := "ref.go:258", after := #[{ on := 7, ground := Ground.data }], guard := none }) (v := ?_) rfl (by kernel_rfl) (by kernel_rfl) (by kernel_rfl) (by kernel_rfl) (fun _ _ _ h => h) (Or.inl ⟨by rfl, ?_⟩) ?_
            rotate_left
            · (intro w hE; have b0 := cellb b0 hE; have b1 := cellb b1 hE; (try dsimp only); go_simp); (try with_reducible rfl)
            try simp only [Act.put, List.setIfInBounds_toArray, List.set_cons_zero, List.set_cons_succ]
            refine wpAnyE_call (i := 2) (oi := { dst := some 36, op := Op.call { callee := Callee.value (Operand.func 25), args := #[Operand.tmp 35, Operand.const (Value.int IntKind.i64 0), Operand.const (Value.int IntKind.i64 50)], argTypes := #[3, 3, 3] }, type := 3, pos := "ref.go:258", after := #[{ on := 1, ground := Ground.data }], guard := none }) (fun w hE => ofPure (R1.out w)) rfl (by kernel_rfl) (by kernel_rfl) (by kernel_rfl) (by kernel_rfl) (fun _ _ _ h => h) (by rfl) (fun w hE => by (try dsimp only); go_simp) ?_
            try simp only [Act.put, List.setIfInBounds_toArray, List.set_cons_zero, List.set_cons_succ]
            refine wpAnyE_call (i := 5) (oi := { dst := some 39, op := Op.call { callee := Callee.value (Operand.func 25), args := #[Operand.tmp 38, Operand.const (Value.int IntKind.i64 0), Operand.const (Value.int IntKind.i64 2000)], argTypes := #[3, 3, 3] }, type := 3, pos := "ref.go:258", after := #[{ on := 4, ground := Ground.data }, { on := 2, ground := Ground.chain }], guard := none }) (fun w hE => ofPure (R2.out w)) rfl (by kernel_rfl) (by kernel_rfl) (by kernel_rfl) (by kernel_rfl) (fun _ _ _ h => h) (by rfl) (fun w hE => by (try dsimp only); go_simp) ?_
            try simp only [Act.put, List.setIfInBounds_toArray, List.set_cons_zero, List.set_cons_succ]
            refine wpAnyE_take (i := 9) (oi := { dst := some 43, op := Op.move (Operand.tmp 42), type := 4, pos := "ref.go:258", after := #[{ on := 8, ground := Ground.data }, { on := 5, ground := Ground.chain }], guard := none }) (v := ?_) rfl (by kernel_rfl) (by kernel_rfl) (by kernel_rfl) (by kernel_rfl) (fun _ _ _ h => h) (Or.inl ⟨by rfl, ?_⟩) ?_
            rotate_left
            · (intro w hE; have b0 := cellb b0 hE; have b1 := cellb b1 hE; (try dsimp only); go_simp); (try with_reducible rfl)
            try simp only [Act.put, List.setIfInBounds_toArray, List.set_cons_zero, List.set_cons_succ]
            refine wpAnyE_take (i := 10) (oi := { dst := some 44, op := Op.fieldAddr 151 (Operand.tmp 5) 1, type := 0, pos := "ref.go:258", after := #[{ on := 9, ground := Ground.guard }], guard := some (9, true) }) (v := undef) rfl (by kernel_rfl) (by kernel_rfl) (by kernel_rfl) (by kernel_rfl) (fun _ _ _ h => h) (Or.inr (Or.inr ⟨by rfl, rfl⟩)) ?_
            try simp only [Act.put, List.setIfInBounds_toArray, List.set_cons_zero, List.set_cons_succ]
            refine wpAnyE_take (i := 11) (oi := { dst := some 45, op := Op.load 3 (Operand.tmp 44), type := 3, pos := "ref.go:258", after := #[{ on := 10, ground := Ground.data }, { on := 9, ground := Ground.guard }], guard := some (9, true) }) (v := undef) rfl (by kernel_rfl) (by kernel_rfl) (by kernel_rfl) (by kernel_rfl) (fun _ _ _ h => h) (Or.inr (Or.inr ⟨by rfl, rfl⟩)) ?_
            try simp only [Act.put, List.setIfInBounds_toArray, List.set_cons_zero, List.set_cons_succ]
            refine wpAnyE_take (i := 12) (oi := { dst := some 46, op := Op.binOp BinOp.eql 3 (Operand.tmp 45) (Operand.const (Value.int IntKind.i64 0)) 3, type := 4, pos := "ref.go:258", after := #[{ on := 11, ground := Ground.data }, { on := 9, ground := Ground.guard }], guard := some (9, true) }) (v := undef) rfl (by kernel_rfl) (by kernel_rfl) (by kernel_rfl) (by kernel_rfl) (fun _ _ _ h => h) (Or.inr (Or.inr ⟨by rfl, rfl⟩)) ?_
            try simp only [Act.put, List.setIfInBounds_toArray, List.set_cons_zero, List.set_cons_succ]
            refine wpAnyE_take (i := 13) (oi := { dst := some 47, op := Op.pick (Operand.tmp 43) (Operand.tmp 46) (Operand.const (Value.bool false)), type := 4, pos := "ref.go:258", after := #[{ on := 9, ground := Ground.data }, { on := 12, ground := Ground.data }], guard := none }) (v := ?_) rfl (by kernel_rfl) (by kernel_rfl) (by kernel_rfl) (by kernel_rfl) (fun _ _ _ h => h) (Or.inl ⟨by rfl, ?_⟩) ?_
            rotate_left
            · (intro w hE; have b0 := cellb b0 hE; have b1 := cellb b1 hE; (try dsimp only); go_simp); (try with_reducible rfl)
            try simp only [Act.put, List.setIfInBounds_toArray, List.set_cons_zero, List.set_cons_succ]
            refine wpAnyE_call (i := 14) (oi := { dst := some 48, op := Op.call { callee := Callee.value (Operand.func 72), args := #[Operand.tmp 47, Operand.const (Value.int IntKind.i64 6)], argTypes := #[4, 3] }, type := 3, pos := "ref.go:258", after := #[{ on := 13, ground := Ground.data }, { on := 9, ground := Ground.chain }], guard := none }) (fun w hE => ofPure (R3.out w)) rfl (by kernel_rfl) (by kernel_rfl) (by kernel_rfl) (by kernel_rfl) (fun _ _ _ h => h) (by rfl) (fun w hE => by (try dsimp only); go_simp) ?_
            try simp only [Act.put, List.setIfInBounds_toArray, List.set_cons_zero, List.set_cons_succ]
            refine wpAnyE_one (i := 15) (o := { dst := some 49, op := Op.buildSlice 91 3 #[(0, Operand.tmp 36), (1, Operand.tmp 39), (2, Operand.tmp 48)], type := 91, pos := "ref.go:258", after := #[{ on := 2, ground := Ground.data }, { on := 5, ground := Ground.data }, { on := 14, ground := Ground.data }], guard := none }) (by kernel_rfl) rfl (fun wy1 hE K hK => ?_)
            have b0 := cellb b0 hE
            have b1 := cellb b1 hE
            have i1 := i1.carry hE
            have hbz1 := bthen hbz hE
            clear hE
            go_simp
            obtain ⟨wx1, hwz⟩ : ∃ v, v = wy1.alloc (Obj.cells #[.int .i64 s1, .int .i64 s2, .int .i64 s3] 3) := ⟨_, rfl⟩
            rw [← hwz]
            have hl : Below wy1.heap.size wy1 wx1 := by rw [hwz]; exact below_new _ _
            have hcz1 := bthen hbz1 hl
            have iN : BlkI wx1 wy1.heap.size 3 [s1, s2, s3] := by rw [hwz]; exact Blk.new _ _ _
            generalize wy1.heap.size = G at iN ⊢
            have b0 := cellb b0 hl
            have b1 := cellb b1 hl
            have i1 := i1.carry hl
            clear hwz
            refine hK _ _ (fun _ => hl) ?_
            clear hK K hl
            try simp only [Act.put, List.setIfInBounds_toArray, List.set_cons_zero, List.set_cons_succ]
            refine wpAnyE_call (i := 16) (oi := { dst := some 50, op := Op.call { callee := Callee.value (Operand.func 64), args := #[Operand.tmp 49], argTypes := #[91] }, type := 3, pos := "ref.go:258", after := #[{ on := 15, ground := Ground.data }, { on := 14, ground := Ground.chain }], guard := none }) (fun w hE => ofPure (RF.out _ w ((BlkI.ints iN rfl).carry hE))) rfl (by kernel_rfl) (by kernel_rfl) (by kernel_rfl) (by kernel_rfl) (fun _ _ _ h => h) (by rfl) (fun w hE => by (try dsimp only); go_simp) ?_
            try simp only [Act.put, List.setIfInBounds_toArray, List.set_cons_zero, List.set_cons_succ]
            refine wpAnyE_take (i := 17) (oi := { dst := some 6, op := Op.assign (Operand.tmp 50), type := 3, pos := "ref.go:258", after := #[{ on := 16, ground := Ground.data }, { on := 16, ground := Ground.chain }, { on := 0, ground := Ground.phase }, { on := 1, ground := Ground.phase }, { on := 2, ground := Ground.phase }, { on := 3, ground := Ground.phase }, { on := 4, ground := Ground.phase }, { on := 5, ground := Ground.phase }, { on := 6, ground := Ground.phase }, { on := 7, ground := Ground.phase }, { on := 8, ground := Ground.phase }, { on := 9, ground := Ground.phase }, { on := 10, ground := Ground.phase }, { on := 11, ground := Ground.phase }, { on := 12, ground := Ground.phase }, { on := 13, ground := Ground.phase }, { on := 14, ground := Ground.phase }, { on := 15, ground := Ground.phase }, { on := 16, ground := Ground.phase }], guard := none }) (v := ?_) rfl (by kernel_rfl) (by kernel_rfl) (by kernel_rfl) (by kernel_rfl) (fun _ _ _ h => h) (Or.inl ⟨by rfl, ?_⟩) ?_
            rotate_left
            · (intro w hE; have b0 := cellb b0 hE; have b1 := cellb b1 hE; (try dsimp only); go_simp); (try with_reducible rfl)
            try simp only [Act.put, List.setIfInBounds_toArray, List.set_cons_zero, List.set_cons_succ]
            refine wpAnyE_done (by kernel_rfl) (fun wy2 hE => ?_) _
            have hbz2 := bthen hcz1 hE
            have b0 := cellb b0 hE
            have b1 := cellb b1 hE
            have i1 := i1.carry hE
            clear hE
            have hB := hbz2
            go_wp2_with fail
            go_meet
            exact ⟨rfl, i1, hB⟩
        case rest =>
          obtain ⟨rfl, i1, hB⟩ := hcut
          by_cases hz : px = 0
          · go_wp2
            go_roundw
            case rel => exact ⟨k + 1, by omega, by go_num, by rw [HS.out]; exact hz, i1, hB⟩
            case measure => simp [intOf]; omega
          · have hE3 : E = px := by
              have h9 := firstE_of_take (ls.map brE) (k + 1) (by rw [HS.out]; exact hz)
              rw [HE2.out, h9, HS.out]
            have HE3 := Lib.hid hE3
            have z : (px == 0) = false := by rw [beq_eq_false_iff_ne]; exact hz
            clear hE3
            go_wp2
            go_ret
            exact ⟨ret_int HE3.out.symm, hB⟩
      · obtain rfl : k = n := by omega
        rw [List.take_of_length_le (by rw [List.length_map, ← HN.out]; exact Nat.le_refl _)] at hf
        have hE3 : E = 0 := by rw [HE2.out]; exact hf
        have HE3 := Lib.hid hE3
        clear hf hE3
        go_wp2
        go_ret
        exact ⟨ret_int HE3.out.symm, hB⟩
  · have z : (eN == 0) = false := by rw [beq_eq_false_iff_ne]; exact he
    have HNE := Lib.hid he
    go_wp2_with fail
    go_ret
    exact ⟨ret_int (by rw [HE.out, orE, if_neg HNE.out]), hB⟩

/-- the reference's way to ask whether a filter is tuned. -/
def tunedR (ls : List (Int × Int)) (h : Int) : Bool := ls.any fun x => wrap64 (wrap64 (h * h) * x.1) == x.2
theorem tuned_same {ls : List (Int × Int)} {h : Int} (hf : fltE ls = 0) (hh : 0 ≤ h ∧ h ≤ 13) : tunedR ls h = tunedB ls h := by
  obtain ⟨_, hb⟩ := fltE_zero hf
  unfold tunedR tunedB
  rw [Bool.eq_iff_iff]
  simp only [List.any_eq_true]
  have key : ∀ x ∈ ls, (wrap64 (wrap64 (h * h) * x.1) == x.2) = (leftB x h == 0) := fun x hx => by
    obtain ⟨e1, e2⟩ := left_bd (hb x hx) hh
    obtain ⟨h1, h2⟩ := brE_zero (hb x hx)
    have a1 := mulBd (x := h) (y := h) (A := 13) (B := 13) (by omega) (by omega)
    have a0 : 0 ≤ h * h := Int.mul_nonneg hh.1 hh.1
    rw [e1]
    generalize h * h = q at a1 a0 ⊢
    have b1 := mulBd (x := q) (y := x.1) (A := 169) (B := 50) (by omega) (by omega)
    rw [wrapSm (x := q) (by omega), wrapSm (x := q * x.1) (by omega)]
    generalize q * x.1 = z at b1 ⊢
    by_cases c : z = x.2
    · have : x.2 - z = 0 := by omega
      simp [c]
    · have : ¬ x.2 - z = 0 := by omega
      rw [beq_eq_false_iff_ne.2 c, beq_eq_false_iff_ne.2 this]
  constructor
  · rintro ⟨x, hx, h⟩; exact ⟨x, hx, by rw [← key x hx]; exact h⟩
  · rintro ⟨x, hx, h⟩; exact ⟨x, hx, by rw [key x hx]; exact h⟩
end

section
set_option linter.unusedSimpArgs false
set_option linter.unusedVariables false
open Go.RowKit

def Big (x : Int) : Prop := -1000000000000000 ≤ x ∧ x ≤ 1000000000000000
def gcdI (a b : Int) : Int := ((Nat.gcd a.natAbs b.natAbs : Nat) : Int)
theorem lowQ_pos {n d : Int} (hd : 0 < d) : lowQ n d = (n.tdiv (gcdI n d), d.tdiv (gcdI n d)) := by
  unfold lowQ lowA gcdI
  rw [if_neg (by omega)]
theorem lowQ_neg {n d : Int} (hd : d < 0) : lowQ n d = ((-n).tdiv (gcdI (-n) (-d)), (-d).tdiv (gcdI (-n) (-d))) := by
  unfold lowQ lowA gcdI
  rw [if_pos hd, Int.natAbs_neg, Int.natAbs_neg, Int.tdiv_neg, Int.tdiv_neg, Int.neg_tdiv, Int.neg_tdiv]
theorem gcd_pos {n d : Int} (hd : d ≠ 0) : 0 < gcdI n d := by
  unfold gcdI
  have : 0 < Nat.gcd n.natAbs d.natAbs := Nat.gcd_pos_of_pos_right _ (by omega)
  omega
theorem tdiv_small {x g : Int} (hx : Big x) : IntKind.i64.wrap (x.tdiv g) = x.tdiv g := by
  have h2 : (x.tdiv g).natAbs ≤ x.natAbs := by rw [Int.natAbs_tdiv]; exact Nat.div_le_self _ _
  unfold Big at hx
  generalize x.tdiv g = z at h2 ⊢
  exact IntWalk.i64_in _ (by omega)
theorem sus_big {ls : List (Int × Int)} {h : Int} (hS : SusOk ls h) : Big (susL ls h).1 ∧ Big (susL ls h).2 ∧ (susL ls h).2 ≠ 0 := hS
end

section
set_option linter.unusedSimpArgs false
set_option linter.unusedVariables false
open Go.RowKit

end

section
set_option linter.unusedSimpArgs false
set_option linter.unusedVariables false
open Go.RowKit

theorem Pairs.of_blkT {w : World} {G : Nat} {T : TypeId} {ls : List (Int × Int)} {cap : Nat} {vs : List Value} (h : Blk w G T vs) (ht : vs.take (ls.length * 2) = (flat2 ls).map (Value.int .i64)) (hc : ls.length ≤ cap) : Pairs w (.slice (some ⟨G, 0, none⟩) ls.length cap) ls := by
  have hg : ∀ j y, (flat2 ls)[j]? = some y → vs[j]? = some (Value.int .i64 y) := fun j y hj => by
    have hlt : j < ls.length * 2 := by have := (List.getElem?_eq_some_iff.1 hj).1; rwa [flat2_length] at this
    have h2 : (vs.take (ls.length * 2))[j]? = some (.int .i64 y) := by rw [ht, List.getElem?_map, hj]; rfl
    rwa [List.getElem?_take_of_lt hlt] at h2
  refine ⟨_, cap, rfl, hc, fun _ => ⟨G, 0, rfl, fun j x hj => ?_⟩⟩
  obtain ⟨h0, h1⟩ := flat2_get ls j x hj
  rw [Nat.zero_add]
  exact ⟨h.cell (hg _ _ h0), h.cell (hg _ _ h1)⟩
theorem Pairs.none' (w : World) : Pairs w (.slice none 0 0) [] := Pairs.nil' w none 0

def tapE (E : Int) : Int := bif E == 0 then 0 else 4
def lsIf (E : Int) (L : List (Int × Int)) : List (Int × Int) := bif E == 0 then L else []
theorem take_setP (vs : List Value) (F : List Int) (m j : Nat) (x : Int) (h : vs.take m = F.map (Value.int .i64)) : (vs.set j (.int .i64 x)).take m = (F.set j x).map (Value.int .i64) := by
  rw [List.take_set, h, List.map_set]

theorem neqBranchR (a b c d : Int) (W : World) : Sem.run Tryz.prog (binOp .neq 151 (.agg #[.int .i64 a, .int .i64 b]) (.agg #[.int .i64 c, .int .i64 d])) W = .ok (.bool (!(a == c && b == d))) W := by
  go_simp
  by_cases h1 : a = c <;> by_cases h2 : b = d <;> simp [h1, h2]
set_option maxRecDepth 100000 in
set_option maxHeartbeats 4000000 in
theorem SameR_any (va vb : Value) (l m : List (Int × Int)) (w : World) (ha : Pairs w va l) (hb : Pairs w vb m) (hl : l.length ≤ 1000000) :
    Calls Tryz.prog 36 #[.agg #[va], .agg #[vb]] w fun e w' => e = .returned (.bool (decide (l = m))) ∧ Below w.heap.size w w' := by
  obtain ⟨xa, ca, rfl, _, hca⟩ := ha
  obtain ⟨xb, cb, rfl, _, hcb⟩ := hb
  by_cases hlen : l.length = m.length
  · have hb0 : ((l.length : Int) != (m.length : Int)) = false := by rw [bne_eq_false_iff_eq]; omega
    rw [hlen] at hb0 hl hca ⊢
    have HL := Lib.hid hlen
    clear hlen hb0
    go_enter Tryz.func36, Tryz.ntmps36
    go_upto_region 1 with fail
    obtain ⟨W1, hW1⟩ : ∃ v, v = World.alloc w (Obj.cells #[.slice xa m.length ca] 67) := ⟨_, rfl⟩
    have kW1 : Below w.heap.size w W1 := by rw [hW1]; exact below_new _ _
    have iW1 : Blk W1 (w.heap.size) 67 [.slice xa m.length ca] := by rw [hW1]; exact Blk.new _ _ _
    have sW1 : W1.heap.size = w.heap.size + 1 := by rw [hW1]; simp
    rw [← hW1]
    clear hW1
    obtain ⟨W2, hW2⟩ : ∃ v, v = World.alloc W1 (Obj.cells #[.slice xb m.length cb] 67) := ⟨_, rfl⟩
    have kW2 : Below W1.heap.size W1 W2 := by rw [hW2]; exact below_new _ _
    have iW2 : Blk W2 (w.heap.size + 1) 67 [.slice xb m.length cb] := by rw [hW2, ← sW1]; exact Blk.new _ _ _
    have sW2 : W2.heap.size = w.heap.size + 1 + 1 := by rw [hW2]; simp [sW1]
    rw [← hW2]
    clear hW2
    have i1 := iW1.carry kW2
    have i2 := iW2
    have hB := bthen kW1 kW2
    have a1 := i1.cell (j := 0) (v := .slice xa m.length ca) rfl
    have a2 := i2.cell (j := 0) (v := .slice xb m.length cb) rfl
    clear iW1 iW2 kW1 kW2 sW1 sW2
    go_wp2_with fail
    go_loopw [5] (fun i wr => ∃ k : Nat, k ≤ m.length ∧ i = .int .i64 k ∧ l.take k = m.take k ∧ Blk wr w.heap.size 67 [.slice xa m.length ca] ∧ Blk wr (w.heap.size + 1) 67 [.slice xb m.length cb] ∧ Below w.heap.size w wr) (fun i _ => m.length - (intOf i).toNat)
    case atStart => exact ⟨0, by omega, rfl, rfl, i1, i2, hB⟩
    case round =>
      clear hB i1 i2 a1 a2
      obtain ⟨k, hk, rfl, hab, i1, i2, hB⟩ := hrel
      have HAB := Lib.hid hab
      have a1 := i1.cell (j := 0) (v := .slice xa m.length ca) rfl
      have a2 := i2.cell (j := 0) (v := .slice xb m.length cb) rfl
      clear hab
      by_cases hlt : k < m.length
      · obtain ⟨ba, oa, rfl, hda⟩ := hca (by omega)
        obtain ⟨bb, ob, rfl, hdb⟩ := hcb (by omega)
        obtain ⟨x, hx⟩ : ∃ x, l[k]? = some x := ⟨_, List.getElem?_eq_getElem (by rw [HL.out]; exact hlt)⟩
        obtain ⟨y, hy⟩ : ∃ y, m[k]? = some y := ⟨_, List.getElem?_eq_getElem hlt⟩
        obtain ⟨c0, c1⟩ := hda k x hx
        obtain ⟨c2, c3⟩ := hdb k y hy
        have c0 := cellb c0 hB
        have c1 := cellb c1 hB
        have c2 := cellb c2 hB
        have c3 := cellb c3 hB
        have HX := Lib.hid hx
        have HY := Lib.hid hy
        obtain ⟨x0, x1⟩ := x
        obtain ⟨y0, y1⟩ := y
        simp only at c0 c1 c2 c3
        have e1 : (k : Int) < (m.length : Int) := by omega
        have hne := fun W => neqBranchR x0 x1 y0 y1 W
        clear hda hdb hx hy hca hcb
        obtain ⟨q, hq⟩ : ∃ q, q = (!(x0 == y0 && x1 == y1)) := ⟨_, rfl⟩
        rw [← hq] at hne
        have HQ := Lib.hid hq
        clear hq
        go_wp2_with fail
        refine wp_region_E 99 (by kernel_rfl) ?_
        obtain ⟨wz, hwz⟩ : ∃ v, v = wr.drew := ⟨_, rfl⟩
        rw [← hwz]
        have hlz : Below wr.heap.size wr wz := by rw [hwz]; exact (Below.refl _ _).drew
        have hbz := bthen hB hlz
        have a1 := cellb a1 hlz
        have a2 := cellb a2 hlz
        have c0 := cellb c0 hlz
        have c1 := cellb c1 hlz
        have c2 := cellb c2 hlz
        have c3 := cellb c3 hlz
        have i1 := i1.carry hlz
        have i2 := i2.carry hlz
        clear hwz hlz
        refine wpAnyE_take (i := 0) (oi := { dst := some 20, op := Op.fieldAddr 67 (Operand.tmp 2) 0, type := 0, pos := "ref.go:523", after := #[], guard := none }) (v := ?_) rfl (by kernel_rfl) (by kernel_rfl) (by kernel_rfl) (by kernel_rfl) (fun _ _ _ h => h) (Or.inl ⟨by rfl, ?_⟩) ?_
        rotate_left
        · (intro w hE; have a1 := cellb a1 hE; have a2 := cellb a2 hE; have c0 := cellb c0 hE; have c1 := cellb c1 hE; have c2 := cellb c2 hE; have c3 := cellb c3 hE; (try dsimp only); go_simp); (try with_reducible rfl)
        try simp only [Act.put, List.setIfInBounds_toArray, List.set_cons_zero, List.set_cons_succ]
        refine wpAnyE_take (i := 1) (oi := { dst := some 21, op := Op.load 65 (Operand.tmp 20), type := 65, pos := "ref.go:523", after := #[{ on := 0, ground := Ground.data }], guard := none }) (v := ?_) rfl (by kernel_rfl) (by kernel_rfl) (by kernel_rfl) (by kernel_rfl) (fun _ _ _ h => h) (Or.inl ⟨by rfl, ?_⟩) ?_
        rotate_left
        · (intro w hE; have a1 := cellb a1 hE; have a2 := cellb a2 hE; have c0 := cellb c0 hE; have c1 := cellb c1 hE; have c2 := cellb c2 hE; have c3 := cellb c3 hE; (try dsimp only); go_simp); (try with_reducible rfl)
        try simp only [Act.put, List.setIfInBounds_toArray, List.set_cons_zero, List.set_cons_succ]
        refine wpAnyE_take (i := 2) (oi := { dst := some 22, op := Op.move (Operand.tmp 5), type := 3, pos := "ref.go:523", after := #[], guard := none }) (v := ?_) rfl (by kernel_rfl) (by kernel_rfl) (by kernel_rfl) (by kernel_rfl) (fun _ _ _ h => h) (Or.inl ⟨by rfl, ?_⟩) ?_
        rotate_left
        · (intro w hE; have a1 := cellb a1 hE; have a2 := cellb a2 hE; have c0 := cellb c0 hE; have c1 := cellb c1 hE; have c2 := cellb c2 hE; have c3 := cellb c3 hE; (try dsimp only); go_simp); (try with_reducible rfl)
        try simp only [Act.put, List.setIfInBounds_toArray, List.set_cons_zero, List.set_cons_succ]
        refine wpAnyE_take (i := 3) (oi := { dst := some 23, op := Op.indexAddr 65 (Operand.tmp 21) (Operand.tmp 22), type := 0, pos := "ref.go:523", after := #[{ on := 1, ground := Ground.data }, { on := 2, ground := Ground.data }], guard := none }) (v := ?_) rfl (by kernel_rfl) (by kernel_rfl) (by kernel_rfl) (by kernel_rfl) (fun _ _ _ h => h) (Or.inl ⟨by rfl, ?_⟩) ?_
        rotate_left
        · (intro w hE; have a1 := cellb a1 hE; have a2 := cellb a2 hE; have c0 := cellb c0 hE; have c1 := cellb c1 hE; have c2 := cellb c2 hE; have c3 := cellb c3 hE; (try dsimp only); go_simp); (try with_reducible rfl)
        try simp only [Act.put, List.setIfInBounds_toArray, List.set_cons_zero, List.set_cons_succ]
        refine wpAnyE_take (i := 4) (oi := { dst := some 24, op := Op.load 151 (Operand.tmp 23), type := 151, pos := "ref.go:523", after := #[{ on := 3, ground := Ground.data }], guard := none }) (v := ?_) rfl (by kernel_rfl) (by kernel_rfl) (by kernel_rfl) (by kernel_rfl) (fun _ _ _ h => h) (Or.inl ⟨by rfl, ?_⟩) ?_
        rotate_left
        · (intro w hE; have a1 := cellb a1 hE; have a2 := cellb a2 hE; have c0 := cellb c0 hE; have c1 := cellb c1 hE; have c2 := cellb c2 hE; have c3 := cellb c3 hE; (try dsimp only); go_simp); (try with_reducible rfl)
        try simp only [Act.put, List.setIfInBounds_toArray, List.set_cons_zero, List.set_cons_succ]
        refine wpAnyE_take (i := 5) (oi := { dst := some 25, op := Op.fieldAddr 67 (Operand.tmp 3) 0, type := 0, pos := "ref.go:523", after := #[], guard := none }) (v := ?_) rfl (by kernel_rfl) (by kernel_rfl) (by kernel_rfl) (by kernel_rfl) (fun _ _ _ h => h) (Or.inl ⟨by rfl, ?_⟩) ?_
        rotate_left
        · (intro w hE; have a1 := cellb a1 hE; have a2 := cellb a2 hE; have c0 := cellb c0 hE; have c1 := cellb c1 hE; have c2 := cellb c2 hE; have c3 := cellb c3 hE; (try dsimp only); go_simp); (try with_reducible rfl)
        try simp only [Act.put, List.setIfInBounds_toArray, List.set_cons_zero, List.set_cons_succ]
        refine wpAnyE_take (i := 6) (oi := { dst := some 26, op := Op.load 65 (Operand.tmp 25), type := 65, pos := "ref.go:523", after := #[{ on := 5, ground := Ground.data }], guard := none }) (v := ?_) rfl (by kernel_rfl) (by kernel_rfl) (by kernel_rfl) (by kernel_rfl) (fun _ _ _ h => h) (Or.inl ⟨by rfl, ?_⟩) ?_
        rotate_left
        · (intro w hE; have a1 := cellb a1 hE; have a2 := cellb a2 hE; have c0 := cellb c0 hE; have c1 := cellb c1 hE; have c2 := cellb c2 hE; have c3 := cellb c3 hE; (try dsimp only); go_simp); (try with_reducible rfl)
        try simp only [Act.put, List.setIfInBounds_toArray, List.set_cons_zero, List.set_cons_succ]
        refine wpAnyE_take (i := 7) (oi := { dst := some 27, op := Op.move (Operand.tmp 5), type := 3, pos := "ref.go:523", after := #[], guard := none }) (v := ?_) rfl (by kernel_rfl) (by kernel_rfl) (by kernel_rfl) (by kernel_rfl) (fun _ _ _ h => h) (Or.inl ⟨by rfl, ?_⟩) ?_
        rotate_left
        · (intro w hE; have a1 := cellb a1 hE; have a2 := cellb a2 hE; have c0 := cellb c0 hE; have c1 := cellb c1 hE; have c2 := cellb c2 hE; have c3 := cellb c3 hE; (try dsimp only); go_simp); (try with_reducible rfl)
        try simp only [Act.put, List.setIfInBounds_toArray, List.set_cons_zero, List.set_cons_succ]
        refine wpAnyE_take (i := 8) (oi := { dst := some 28, op := Op.indexAddr 65 (Operand.tmp 26) (Operand.tmp 27), type := 0, pos := "ref.go:523", after := #[{ on := 6, ground := Ground.data }, { on := 7, ground := Ground.data }], guard := none }) (v := ?_) rfl (by kernel_rfl) (by kernel_rfl) (by kernel_rfl) (by kernel_rfl) (fun _ _ _ h => h) (Or.inl ⟨by rfl, ?_⟩) ?_
        rotate_left
        · (intro w hE; have a1 := cellb a1 hE; have a2 := cellb a2 hE; have c0 := cellb c0 hE; have c1 := cellb c1 hE; have c2 := cellb c2 hE; have c3 := cellb c3 hE; (try dsimp only); go_simp); (try with_reducible rfl)
        try simp only [Act.put, List.setIfInBounds_toArray, List.set_cons_zero, List.set_cons_succ]
        refine wpAnyE_take (i := 9) (oi := { dst := some 29, op := Op.load 151 (Operand.tmp 28), type := 151, pos := "ref.go:523", after := #[{ on := 8, ground := Ground.data }], guard := none }) (v := ?_) rfl (by kernel_rfl) (by kernel_rfl) (by kernel_rfl) (by kernel_rfl) (fun _ _ _ h => h) (Or.inl ⟨by rfl, ?_⟩) ?_
        rotate_left
        · (intro w hE; have a1 := cellb a1 hE; have a2 := cellb a2 hE; have c0 := cellb c0 hE; have c1 := cellb c1 hE; have c2 := cellb c2 hE; have c3 := cellb c3 hE; (try dsimp only); go_simp); (try with_reducible rfl)
        try simp only [Act.put, List.setIfInBounds_toArray, List.set_cons_zero, List.set_cons_succ]
        refine wpAnyE_take (i := 10) (oi := { dst := some 30, op := Op.binOp BinOp.neq 151 (Operand.tmp 24) (Operand.tmp 29) 151, type := 4, pos := "ref.go:523", after := #[{ on := 4, ground := Ground.data }, { on := 9, ground := Ground.data }], guard := none }) (v := ?_) rfl (by kernel_rfl) (by kernel_rfl) (by kernel_rfl) (by kernel_rfl) (fun _ _ _ h => h) (Or.inl ⟨by rfl, ?_⟩) ?_
        rotate_left
        · (intro w hE; have a1 := cellb a1 hE; have a2 := cellb a2 hE; have c0 := cellb c0 hE; have c1 := cellb c1 hE; have c2 := cellb c2 hE; have c3 := cellb c3 hE; (try dsimp only); go_simp); (try with_reducible rfl)
        try simp only [Act.put, List.setIfInBounds_toArray, List.set_cons_zero, List.set_cons_succ]
        refine wpAnyE_done (by kernel_rfl) (fun wy1 hE => ?_) _
        have hbz1 := bthen hbz hE
        have a1 := cellb a1 hE
        have a2 := cellb a2 hE
        have c0 := cellb c0 hE
        have c1 := cellb c1 hE
        have c2 := cellb c2 hE
        have c3 := cellb c3 hE
        have i1 := i1.carry hE
        have i2 := i2.carry hE
        clear hE
        have hB := hbz1
        obtain ⟨W4, hW4⟩ : ∃ v, v = wy1 := ⟨_, rfl⟩
        rw [← hW4] at hB i1 i2 ⊢
        clear hW4 a1 a2 c0 c1 c2 c3 hne
        cases q
        · have hxy : x0 = y0 ∧ x1 = y1 := by
            have h := HQ.out
            simpa using h.symm
          obtain ⟨rfl, rfl⟩ := hxy
          go_wp2
          go_roundw
          case rel => exact ⟨k + 1, by omega, by go_num, take_eq_succ HAB.out HX.out HY.out, i1, i2, hB⟩
          case measure => simp [intOf]; omega
        · have hne : l ≠ m := by
            rintro rfl
            have h1 := HX.out
            rw [HY.out] at h1
            obtain ⟨rfl, rfl⟩ := Prod.mk.inj (Option.some.inj h1)
            have h := HQ.out
            simp at h
          have HN := Lib.hid hne
          clear hne
          go_wp2
          go_ret
          exact ⟨ret_bool (by simp [HN.out]), hB⟩
      · obtain rfl : k = m.length := by omega
        have h := HAB.out
        rw [← HL.out, List.take_length, HL.out, List.take_length] at h
        have H := Lib.hid h
        clear h hca hcb
        go_wp2
        go_ret
        exact ⟨ret_bool (by rw [H.out]; simp), hB⟩
  · have hb0 : ((l.length : Int) != (m.length : Int)) = true := by rw [bne_iff_ne]; omega
    have HN := Lib.hid (show l ≠ m by rintro rfl; exact hlen rfl)
    clear hlen hca hcb
    go_enter Tryz.func36, Tryz.ntmps36
    go_upto_region 1 with fail
    obtain ⟨W1, hW1⟩ : ∃ v, v = World.alloc w (Obj.cells #[.slice xa l.length ca] 67) := ⟨_, rfl⟩
    have kW1 : Below w.heap.size w W1 := by rw [hW1]; exact below_new _ _
    have iW1 : Blk W1 (w.heap.size) 67 [.slice xa l.length ca] := by rw [hW1]; exact Blk.new _ _ _
    have sW1 : W1.heap.size = w.heap.size + 1 := by rw [hW1]; simp
    rw [← hW1]
    clear hW1
    obtain ⟨W2, hW2⟩ : ∃ v, v = World.alloc W1 (Obj.cells #[.slice xb m.length cb] 67) := ⟨_, rfl⟩
    have kW2 : Below W1.heap.size W1 W2 := by rw [hW2]; exact below_new _ _
    have iW2 : Blk W2 (w.heap.size + 1) 67 [.slice xb m.length cb] := by rw [hW2, ← sW1]; exact Blk.new _ _ _
    have sW2 : W2.heap.size = w.heap.size + 1 + 1 := by rw [hW2]; simp [sW1]
    rw [← hW2]
    clear hW2
    have hB := bthen kW1 kW2
    have a1 := (iW1.carry kW2).cell (j := 0) (v := .slice xa l.length ca) rfl
    have a2 := iW2.cell (j := 0) (v := .slice xb m.length cb) rfl
    clear iW1 iW2 kW1 kW2 sW1 sW2
    go_wp2
    go_ret
    exact ⟨ret_bool (by simp [HN.out]), hB⟩

/-- a filter of the program against one of the reference, with both errors. -/
theorem filter_any (u v : Value) (L M : List (Int × Int)) (bad : Int) (w : World) (hu : Pairs w u L) (hv : Pairs w v M) (hl : L.length ≤ 1000000) (h0 : bad = 0 → L = M) (h1 : bad ≠ 0 → L = []) :
    Calls Tryz.prog 35 #[.agg #[u], .int .i64 bad, .int .i64 bad, .agg #[v]] w fun e w' => e = .returned (.bool true) ∧ Below w.heap.size w w' := by
  have HU := Lib.hid hu
  have HV := Lib.hid hv
  obtain ⟨xa, ca, rfl, _, _⟩ := hu
  obtain ⟨xb, cb, rfl, _, _⟩ := hv
  by_cases hb : bad = 0
  · obtain rfl := hb
    obtain rfl := h0 rfl
    have TT := Lib.hid (fun W hP => told_any (.slice xa L.length ca) L W hP hl)
    have TS := Lib.hid (fun u W hP hQ => SameR_any u (.slice xb L.length cb) L L W hP hQ hl)
    rw [decide_eq_true rfl] at TS
    clear h0 h1
    go_enter Tryz.func35, Tryz.ntmps35
    go_upto_region 1 with fail
    obtain ⟨W1, hW1⟩ : ∃ v, v = World.alloc w (Obj.cells #[.slice xa L.length ca] 73) := ⟨_, rfl⟩
    have kW1 : Below w.heap.size w W1 := by rw [hW1]; exact below_new _ _
    have iW1 : Blk W1 (w.heap.size) 73 [.slice xa L.length ca] := by rw [hW1]; exact Blk.new _ _ _
    have sW1 : W1.heap.size = w.heap.size + 1 := by rw [hW1]; simp
    rw [← hW1]
    clear hW1
    obtain ⟨W2, hW2⟩ : ∃ v, v = World.alloc W1 (Obj.cells #[.slice xb L.length cb] 67) := ⟨_, rfl⟩
    have kW2 : Below W1.heap.size W1 W2 := by rw [hW2]; exact below_new _ _
    have iW2 : Blk W2 (w.heap.size + 1) 67 [.slice xb L.length cb] := by rw [hW2, ← sW1]; exact Blk.new _ _ _
    have sW2 : W2.heap.size = w.heap.size + 1 + 1 := by rw [hW2]; simp [sW1]
    rw [← hW2]
    clear hW2
    have hB := bthen kW1 kW2
    have a1 := (iW1.carry kW2).cell (j := 0) (v := .slice xa L.length ca) rfl
    have a2 := iW2.cell (j := 0) (v := .slice xb L.length cb) rfl
    have hP := HU.out.carry hB
    have hQ := HV.out.carry hB
    clear iW1 iW2 kW1 kW2 sW1 sW2
    go_wp2_with fail
    refine wp_region_held_drew (S := (fun W => W.cell? ⟨w.heap.size, 0, none⟩ = some (.slice xa L.length ca) ∧ W.cell? ⟨w.heap.size + 1, 0, none⟩ = some (.slice xb L.length cb))) (by kernel_rfl) ⟨cellb a1 (Below.refl _ _).drew, cellb a2 (Below.refl _ _).drew⟩ (fun hHeld0 => ?_)
    obtain ⟨wzd, hwz⟩ : ∃ v, v = W2.drew := ⟨_, rfl⟩
    rw [← hwz] at hHeld0 ⊢
    have hbzd : Below W2.heap.size W2 wzd := by rw [hwz]; exact (Below.refl _ _).drew
    have hlzd : Below W2.heap.size W2 wzd := by rw [hwz]; exact (Below.refl _ _).drew
    have hP := hP.carry hlzd
    have hQ := hQ.carry hlzd
    clear hwz hlzd
    refine wpAnyH_take (i := 0) (oi := { dst := some 20, op := Op.move (Operand.tmp 1), type := 31, pos := "law.go:102", after := #[], guard := none }) (v := ?_) rfl (by kernel_rfl) (by kernel_rfl) (by kernel_rfl) (fun _ _ _ h => h) (Or.inl ⟨by rfl, ?_⟩) (by assumption) ?_
    rotate_left
    · (intro w hSw; (try dsimp only at hSw); go_simp); (try with_reducible rfl)
    try simp only [Act.put, List.setIfInBounds_toArray, List.set_cons_zero, List.set_cons_succ]
    refine wpAnyH_take (i := 1) (oi := { dst := some 21, op := Op.binOp BinOp.eql 31 (Operand.tmp 20) (Operand.const (Value.int IntKind.i64 0)) 31, type := 4, pos := "law.go:102", after := #[{ on := 0, ground := Ground.data }], guard := none }) (v := ?_) rfl (by kernel_rfl) (by kernel_rfl) (by kernel_rfl) (fun _ _ _ h => h) (Or.inl ⟨by rfl, ?_⟩) (by assumption) ?_
    rotate_left
    · (intro w hSw; (try dsimp only at hSw); go_simp); (try with_reducible rfl)
    try simp only [Act.put, List.setIfInBounds_toArray, List.set_cons_zero, List.set_cons_succ]
    refine wpAnyH_take (i := 2) (oi := { dst := some 22, op := Op.move (Operand.tmp 21), type := 4, pos := "law.go:102", after := #[{ on := 1, ground := Ground.data }], guard := none }) (v := ?_) rfl (by kernel_rfl) (by kernel_rfl) (by kernel_rfl) (fun _ _ _ h => h) (Or.inl ⟨by rfl, ?_⟩) (by assumption) ?_
    rotate_left
    · (intro w hSw; (try dsimp only at hSw); go_simp); (try with_reducible rfl)
    try simp only [Act.put, List.setIfInBounds_toArray, List.set_cons_zero, List.set_cons_succ]
    refine wpAnyH_take (i := 3) (oi := { dst := some 23, op := Op.load 73 (Operand.tmp 4), type := 73, pos := "law.go:102", after := #[{ on := 2, ground := Ground.guard }], guard := some (2, true) }) (v := ?_) rfl (by kernel_rfl) (by kernel_rfl) (by kernel_rfl) (fun _ _ _ h => h) (Or.inl ⟨by rfl, ?_⟩) (by assumption) ?_
    rotate_left
    · (intro w hSw; (try dsimp only at hSw); go_simp); (try with_reducible rfl)
    try simp only [Act.put, List.setIfInBounds_toArray, List.set_cons_zero, List.set_cons_succ]
    refine wpAnyH_take (i := 5) (oi := { dst := some 25, op := Op.load 67 (Operand.tmp 7), type := 67, pos := "law.go:102", after := #[{ on := 2, ground := Ground.guard }], guard := some (2, true) }) (v := ?_) rfl (by kernel_rfl) (by kernel_rfl) (by kernel_rfl) (fun _ _ _ h => h) (Or.inl ⟨by rfl, ?_⟩) (by assumption) ?_
    rotate_left
    · (intro w hSw; (try dsimp only at hSw); go_simp); (try with_reducible rfl)
    try simp only [Act.put, List.setIfInBounds_toArray, List.set_cons_zero, List.set_cons_succ]
    refine wpAnyH_ready (rs := [4]) (by kernel_rfl) (by simp) ?_
    refine (AllReadyH.cons (o := { dst := some 24, op := Op.call { callee := Callee.value (Operand.func 37), args := #[Operand.tmp 23], argTypes := #[73] }, type := 67, pos := "law.go:102", after := #[{ on := 3, ground := Ground.data }, { on := 2, ground := Ground.chain }, { on := 2, ground := Ground.guard }], guard := some (2, true) }) rfl (fun K hK => ?_) AllReadyH.nil)
    go_simp
    refine (TT.out wzd hP).mono ?_
    rintro e wz4 ⟨⟨u, rfl, hu⟩, hl⟩
    (try go_wp2_with fail)
    have hbz4 := bthen hbzd hl
    have hP := hP.carry hl
    have hQ := hQ.carry hl
    clear hl
    refine hK.out _ _ ⟨cellb a1 hbz4, cellb a2 hbz4⟩ (fun hHeld1 => ?_)
    clear hK K hHeld0
    try simp only [Act.put, List.setIfInBounds_toArray, List.set_cons_zero, List.set_cons_succ]
    refine wpAnyH_ready (rs := [6]) (by kernel_rfl) (by simp) ?_
    refine (AllReadyH.cons (o := { dst := some 26, op := Op.call { callee := Callee.value (Operand.func 36), args := #[Operand.tmp 24, Operand.tmp 25], argTypes := #[67, 67] }, type := 4, pos := "law.go:102", after := #[{ on := 4, ground := Ground.data }, { on := 5, ground := Ground.data }, { on := 4, ground := Ground.chain }, { on := 2, ground := Ground.guard }], guard := some (2, true) }) rfl (fun K hK => ?_) AllReadyH.nil)
    go_simp
    refine (TS.out u wz4 hu hQ).mono ?_
    rintro e wz6 ⟨rfl, hl⟩
    (try go_wp2_with fail)
    have hbz6 := bthen hbz4 hl
    have hP := hP.carry hl
    have hQ := hQ.carry hl
    have hu := hu.carry hl
    clear hl
    refine hK.out _ _ ⟨cellb a1 hbz6, cellb a2 hbz6⟩ (fun hHeld2 => ?_)
    clear hK K hHeld1
    try simp only [Act.put, List.setIfInBounds_toArray, List.set_cons_zero, List.set_cons_succ]
    refine wpAnyH_take (i := 7) (oi := { dst := some 27, op := Op.pick (Operand.tmp 22) (Operand.tmp 26) (Operand.const (Value.bool false)), type := 4, pos := "law.go:102", after := #[{ on := 2, ground := Ground.data }, { on := 6, ground := Ground.data }], guard := none }) (v := ?_) rfl (by kernel_rfl) (by kernel_rfl) (by kernel_rfl) (fun _ _ _ h => h) (Or.inl ⟨by rfl, ?_⟩) (by assumption) ?_
    rotate_left
    · (intro w hSw; (try dsimp only at hSw); go_simp); (try with_reducible rfl)
    try simp only [Act.put, List.setIfInBounds_toArray, List.set_cons_zero, List.set_cons_succ]
    refine wpAnyH_take (i := 8) (oi := { dst := some 8, op := Op.assign (Operand.tmp 27), type := 4, pos := "law.go:102", after := #[{ on := 7, ground := Ground.data }, { on := 6, ground := Ground.chain }, { on := 0, ground := Ground.phase }, { on := 1, ground := Ground.phase }, { on := 2, ground := Ground.phase }, { on := 3, ground := Ground.phase }, { on := 4, ground := Ground.phase }, { on := 5, ground := Ground.phase }, { on := 6, ground := Ground.phase }, { on := 7, ground := Ground.phase }], guard := none }) (v := ?_) rfl (by kernel_rfl) (by kernel_rfl) (by kernel_rfl) (fun _ _ _ h => h) (Or.inl ⟨by rfl, ?_⟩) (by assumption) ?_
    rotate_left
    · (intro w hSw; (try dsimp only at hSw); go_simp); (try with_reducible rfl)
    try simp only [Act.put, List.setIfInBounds_toArray, List.set_cons_zero, List.set_cons_succ]
    refine wpAnyH_done (by kernel_rfl) ?_ _
    clear hHeld2
    go_wp2
    go_ret
    exact ⟨rfl, bthen hB hbz6⟩
  · obtain rfl := h1 hb
    have z' : (bad != 0) = true := by rw [bne_iff_ne]; exact hb
    clear h0 h1
    go_enter Tryz.func35, Tryz.ntmps35
    go_upto_region 1 with fail
    obtain ⟨W1, hW1⟩ : ∃ v, v = World.alloc w (Obj.cells #[.slice xa 0 ca] 73) := ⟨_, rfl⟩
    have kW1 : Below w.heap.size w W1 := by rw [hW1]; exact below_new _ _
    have iW1 : Blk W1 (w.heap.size) 73 [.slice xa 0 ca] := by rw [hW1]; exact Blk.new _ _ _
    have sW1 : W1.heap.size = w.heap.size + 1 := by rw [hW1]; simp
    rw [← hW1]
    clear hW1
    obtain ⟨W2, hW2⟩ : ∃ v, v = World.alloc W1 (Obj.cells #[.slice xb M.length cb] 67) := ⟨_, rfl⟩
    have kW2 : Below W1.heap.size W1 W2 := by rw [hW2]; exact below_new _ _
    have iW2 : Blk W2 (w.heap.size + 1) 67 [.slice xb M.length cb] := by rw [hW2, ← sW1]; exact Blk.new _ _ _
    have sW2 : W2.heap.size = w.heap.size + 1 + 1 := by rw [hW2]; simp [sW1]
    rw [← hW2]
    clear hW2
    have hB := bthen kW1 kW2
    have a1 := (iW1.carry kW2).cell (j := 0) (v := .slice xa 0 ca) rfl
    clear iW1 iW2 kW1 kW2 sW1 sW2
    go_wp2
    go_ret
    exact ⟨by simp, hB⟩

/-- a list of pairs does not lie in a block that holds no integer: stores there leave it. -/
theorem Pairs.apart {w : World} {v u x : Value} {l : List (Int × Int)} {B j : Nat} {T : TypeId} (h : Pairs w v l) (hb : Blk w B T [u]) (hu : ∀ y : Int, u ≠ .int .i64 y) : Pairs (w.setCell ⟨B, j, none⟩ x) v l := by
  obtain ⟨a, c, hv, hc, hr⟩ := h
  refine ⟨a, c, hv, hc, fun h0 => ?_⟩
  obtain ⟨b, off, ha, hd⟩ := hr h0
  refine ⟨b, off, ha, fun k y hk => ?_⟩
  obtain ⟨c0, c1⟩ := hd k y hk
  have hne : b ≠ B := by
    rintro rfl
    have hq : w.cell? ⟨b, off + k * 2, none⟩ = ([u] : List Value)[off + k * 2]? := by simp [World.cell?, show w.heap[b]? = _ from hb]
    rw [c0] at hq
    rcases Nat.eq_zero_or_pos (off + k * 2) with e | e
    · rw [e] at hq; simp at hq; exact hu _ hq.symm
    · rw [List.getElem?_eq_none (by simp; omega)] at hq; simp at hq
  have key : ∀ q : Nat, (w.setCell ⟨B, j, none⟩ x).cell? ⟨b, q, none⟩ = w.cell? ⟨b, q, none⟩ := fun q =>
    World.cell?_of_block (Below.heap_setCell _ _ _ _ (show b ≠ B from hne))
  rw [key, key]
  exact ⟨c0, c1⟩

def tapP (ls : List (Int × Int)) (b tap : Int) : Int := firstE [braE ls b, withinE tap (-8) 8]
def tapX (ls : List (Int × Int)) (b tap : Int) : Int := bif tapP ls b tap == 0 then tapE (fltE (tapL ls b.toNat tap)) else tapP ls b tap
def tapZ (ls : List (Int × Int)) (b tap : Int) : List (Int × Int) := bif tapP ls b tap == 0 then lsIf (fltE (tapL ls b.toNat tap)) (tapL ls b.toNat tap) else []
theorem tapP_zero {ls : List (Int × Int)} {b tap : Int} (h : tapP ls b tap = 0) : fltE ls = 0 ∧ 0 ≤ b ∧ b < ls.length := by
  unfold tapP at h
  exact braE_zero (firstE_head h)
end

end Go.Proofs.YtoihfmndhfnmmaaGreatDoor

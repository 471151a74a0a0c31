/- The law's helpers for filters; the reference's checks of filters. (printed by gen/harQd.py) -/
import Derived.Test.YtfkemdapmoponaaGreatDoorHqA
namespace Go.Proofs.YtfkemdapmoponaaGreatDoor
set_option linter.unusedSimpArgs false
set_option linter.unusedVariables false
open Go.RowKit

theorem ownsRow_succ2 {w : World} {base e size n : Nat} {v : Value} {xs : List Value} (h : w.ownsRow base e size v (n + 1) xs) : ∃ g cap, v = .slice (some ⟨g, 0, none⟩) (n + 1) cap := by
  rcases h.2 with ⟨_, h2⟩ | ⟨g, cap, cur, hv, _⟩
  · omega
  · exact ⟨g, cap, hv⟩
theorem ownsRow_slice {w : World} {base e size n : Nat} {v : Value} {xs : List Value} (h : w.ownsRow base e size v n xs) : ∃ a cap, v = .slice a n cap := by
  rcases h.2 with ⟨h1, h2⟩ | ⟨g, cap, cur, hv, _⟩
  · exact ⟨none, 0, by rw [h1, h2]⟩
  · exact ⟨_, cap, hv⟩
theorem own_setCell {w : World} {base e size n B j : Nat} {v x : Value} {xs : List Value} (h : w.ownsRow base e size v n xs) (hB : B < base) : (w.setCell ⟨B, j, none⟩ x).ownsRow base e size v n xs := by
  refine ⟨h.1, ?_⟩
  rcases h.2 with h1 | ⟨g, cap, cur, hv, hg, hh, hr⟩
  · exact .inl h1
  · exact .inr ⟨g, cap, cur, hv, hg, (Below.heap_setCell _ _ _ _ (show g ≠ B by omega)).trans hh, hr⟩
theorem flat2_take_succ (ls : List (Int × Int)) (k : Nat) (x : Int × Int) (hk : ls[k]? = some x) : (flat2 (ls.take (k + 1))).map (Value.int .i64) = (flat2 (ls.take k)).map (Value.int .i64) ++ [.int .i64 x.1, .int .i64 x.2] := by
  rw [List.take_add_one, hk, flat2, flat2, List.map_append, List.flatten_append, List.map_append]; simp
theorem Tryz.infoBranchR : (Tryz.prog.info? 152).map (fun i => (i.zero, i.size, i.bytes)) = some (some (.agg #[.int .i64 0, .int .i64 0]), 2, 16) := by kernel_rfl
theorem Tryz.undBranchesR : Tryz.prog.underlying 60 = some (.slice 152) := by kernel_rfl
theorem Tryz.infoFilterR : (Tryz.prog.info? 62).map (·.size) = some 1 := by kernel_rfl


set_option maxRecDepth 100000 in
set_option maxHeartbeats 4000000 in
theorem given_any (v : Value) (ls : List (Int × Int)) (w : World) (hv : Pairs w v ls) (hl : ls.length ≤ 1000000) :
    Calls Tryz.prog 32 #[.agg #[v]] w fun e w' => (∃ u, e = .returned (.agg #[u]) ∧ Pairs w' u ls) ∧ Below w.heap.size w w' := by
  obtain ⟨i0, hi, hz0, hz1, hz2⟩ := info_parts Tryz.infoBranch
  obtain ⟨n, hn⟩ : ∃ n, n = ls.length := ⟨_, rfl⟩
  obtain ⟨a, cp, rfl, _, hcs0⟩ := id hv
  rw [← hn] at hcs0 hl ⊢
  have hcs : ∀ k : Nat, k < n → ∃ b off x, a = some ⟨b, off, none⟩ ∧ ls[k]? = some x ∧ w.cell? ⟨b, off + k * 2, none⟩ = some (.int .i64 x.1) ∧ w.cell? ⟨b, off + k * 2 + 1, none⟩ = some (.int .i64 x.2) := fun k hk => by
    obtain ⟨b, off, rfl, hc⟩ := hcs0 (by omega)
    have e1 := hc k (ls[k]'(by omega)) (List.getElem?_eq_getElem (by omega))
    exact ⟨b, off, _, rfl, List.getElem?_eq_getElem (by omega), e1⟩
  have HC := Lib.hid hcs
  have HN := Lib.hid hn
  clear hv hcs0 hcs hn
  go_enter Tryz.func32, Tryz.ntmps32
  go_upto_region 2 with fail
  obtain ⟨W1, hW1⟩ : ∃ v, v = World.alloc w (Obj.cells #[.slice a n cp] 62) := ⟨_, rfl⟩
  have kW1 : Below w.heap.size w W1 := by rw [hW1]; exact below_new _ _
  have iW1 : Blk W1 (w.heap.size) 62 [.slice a n cp] := by rw [hW1]; exact Blk.new _ _ _
  have sW1 : W1.heap.size = w.heap.size + 1 := by rw [hW1]; simp
  rw [← hW1]
  clear hW1
  obtain ⟨W2, hW2⟩ : ∃ v, v = World.alloc W1 (Obj.cells #[.slice none 0 0] 70) := ⟨_, rfl⟩
  have kW2 : Below W1.heap.size W1 W2 := by rw [hW2]; exact below_new _ _
  have iW2 : Blk W2 (w.heap.size + 1) 70 [.slice none 0 0] := by rw [hW2, ← sW1]; exact Blk.new _ _ _
  have sW2 : W2.heap.size = w.heap.size + 1 + 1 := by rw [hW2]; simp [sW1]
  rw [← hW2]
  clear hW2
  obtain ⟨W3, hW3⟩ : ∃ v, v = World.alloc W2 (Obj.cells #[.slice none 0 0] 70) := ⟨_, rfl⟩
  have kW3 : Below W2.heap.size W2 W3 := by rw [hW3]; exact below_new _ _
  have iW3 : Blk W3 (w.heap.size + 1 + 1) 70 [.slice none 0 0] := by rw [hW3, ← sW2]; exact Blk.new _ _ _
  have sW3 : W3.heap.size = w.heap.size + 1 + 1 + 1 := by rw [hW3]; simp [sW2]
  rw [← hW3]
  clear hW3
  have a0 := ((iW1.carry kW2).carry kW3).cell (j := 0) (v := .slice a n cp) rfl
  have i2 := iW2.carry kW3
  have i3 := iW3
  have hB := bthen kW1 (bthen kW2 kW3)
  have hz : W3.heap.size = w.heap.size + 3 := by omega
  clear iW1 iW2 iW3 kW1 kW2 kW3 sW1 sW2 sW3
  have hB3 : Below W3.heap.size W3 W3 := Below.refl _ _
  have HB := Lib.hid hB
  have HI2 := Lib.hid i2
  go_wp2_with fail
  clear a0 hB i2
  go_loopw [9] (fun i wr => ∃ (k : Nat) (u : Value), k ≤ n ∧ i = .int .i64 k ∧ Blk wr (w.heap.size + 1 + 1) 70 [u] ∧ wr.ownsRow W3.heap.size 153 2 u k ((flat2 (ls.take k)).map (Value.int .i64)) ∧ Blk wr (w.heap.size + 1) 70 [.slice none 0 0] ∧ Below w.heap.size w wr) (fun i _ => n - (intOf i).toNat)
  case atStart => exact ⟨0, _, by omega, rfl, i3, World.ownsRow_nil _ _ _ _, HI2.out, HB.out⟩
  case round =>
    clear i3
    obtain ⟨k, u, hk, rfl, i3, hown, i2, hB⟩ := hrel
    have hsz : W3.heap.size ≤ wr.heap.size := by have := Blk.lt i3; omega
    by_cases hlt : k < n
    · obtain ⟨b, off, x, rfl, hx, c0, c1⟩ := HC.out k hlt
      have c0 := cellb c0 hB
      have c1 := cellb c1 hB
      have hts := flat2_take_succ ls k x hx
      have HTS := Lib.hid hts
      obtain ⟨x0, x1⟩ := x
      simp only at c0 c1
      have d1 : (k : Int) < (n : Int) := by omega
      clear hx hts
      go_upto_region 5 with fail
      obtain ⟨W5, hW5⟩ : ∃ v, v = World.alloc wr (Obj.cells #[.int .i64 x0, .int .i64 x1] 152) := ⟨_, rfl⟩
      have kW5 : Below wr.heap.size wr W5 := by rw [hW5]; exact below_new _ _
      have iW5 : Blk W5 (wr.heap.size) 152 [.int .i64 x0, .int .i64 x1] := by rw [hW5]; exact Blk.new _ _ _
      have sW5 : W5.heap.size = wr.heap.size + 1 := by rw [hW5]; simp
      rw [← hW5]
      clear hW5
      have b0 := iW5.cell (j := 0) (v := .int .i64 x0) rfl
      have b1 := iW5.cell (j := 1) (v := .int .i64 x1) rfl
      replace i3 := i3.carry kW5
      replace i2 := i2.carry kW5
      replace hown := own_below hown kW5
      replace hB := bthen hB kW5
      have hs5 := kW5.size
      have a3 := i3.cell (j := 0) (v := u) rfl
      have f3 := i3.frozen 0
      clear c0 c1 kW5 iW5 sW5
      go_wp2_with (at_builtin; refine wpList_append_own _ rfl _ _ 68 rfl W3.heap.size 153 i0 (.agg #[.int .i64 0, .int .i64 0]) 2 16 Tryz.undBranches hi hz0 hz1 hz2 rfl (by decide) _ _ _ rfl (hown.alloc _) ⟨W5.heap.size, 0, none⟩ 1 1 [.int .i64 x0, .int .i64 x1] rfl rfl (fun j u hj => (Blk.new W5 153 [.int .i64 x0, .int .i64 x1]).news j u hj) (by simp [Value.oneCell']) (by unfold maxLen; omega) (by omega) (by simp; omega) ?_; intro v' w6 hown6 hgrow6 _; obtain ⟨g9, gc9, rfl⟩ := ownsRow_succ2 hown6; have j3 := Blk.own_kept (i3.carry (below_new W5 (.cells #[.int .i64 x0, .int .i64 x1] 153))) (hown.alloc _) (by decide) hgrow6; have j2 := Blk.own_kept (i2.carry (below_new W5 (.cells #[.int .i64 x0, .int .i64 x1] 153))) (hown.alloc _) (by decide) hgrow6; have hB6 := (bthen hB (below_new W5 (.cells #[.int .i64 x0, .int .i64 x1] 153))).grown hgrow6 (by simp; omega) (fun k' hk' => by have := (World.ownsRow.lt hown k' hk').1; omega); have a3 := j3.cell (j := 0) (v := u) rfl; have f3 := j3.frozen 0)
      refine ⟨⟨k + 1, _, by omega, by go_num, j3.set 0 (.slice (some ⟨g9, 0, none⟩) (k + 1) gc9), ?_, j2.other (by omega) _, hB6.setCell (by simp; omega) _⟩, ?_⟩
      · rw [HTS.out]
        exact own_setCell hown6 (by omega)
      · simp [intOf]; omega
    · obtain rfl : k = n := by omega
      obtain ⟨ua, uc, rfl⟩ := ownsRow_slice hown
      have hP2 : Pairs (wr.setCell ⟨w.heap.size + 1, 0, none⟩ (.slice ua k uc)) (.slice ua k uc) ls := by
        have h9 := own_setCell (x := .slice ua k uc) (B := w.heap.size + 1) (j := 0) hown (by omega)
        rw [List.take_of_length_le (by rw [HN.out]; exact Nat.le_refl _)] at h9
        exact Pairs.of_own (l := ls) (base := W3.heap.size) (e := 153) (by rw [← HN.out]; exact h9)
      have a3 := i3.cell (j := 0) (v := .slice ua k uc) rfl
      have a2 := i2.cell (j := 0) (v := .slice none 0 0) rfl
      have f2 := i2.frozen 0
      have hl2 : w.heap.size + 1 < wr.heap.size := Blk.lt i2
      have HP2 := Lib.hid hP2
      clear hown hP2
      go_wp2_with fail
      have i9 := i2.set 0 (.slice ua k uc)
      have z0 := i9.cell (j := 0) (v := .slice ua k uc) rfl
      exact bodyPost_ret (v := .agg #[.slice ua k uc]) (by simp [results, Tryz.f32, go_sem, z0]) rfl ⟨⟨_, rfl, HP2.out⟩, hB.setCell (by simp) _⟩


set_option maxRecDepth 100000 in
set_option maxHeartbeats 4000000 in
theorem told_any (v : Value) (ls : List (Int × Int)) (w : World) (hv : Pairs w v ls) (hl : ls.length ≤ 1000000) :
    Calls Tryz.prog 105 #[.agg #[v]] w fun e w' => (∃ u, e = .returned (.agg #[u]) ∧ Pairs w' u ls) ∧ Below w.heap.size w w' := by
  obtain ⟨i0, hi, hz0, hz1, hz2⟩ := info_parts Tryz.infoBranchR
  obtain ⟨n, hn⟩ : ∃ n, n = ls.length := ⟨_, rfl⟩
  obtain ⟨a, cp, rfl, _, hcs0⟩ := id hv
  rw [← hn] at hcs0 hl ⊢
  have hcs : ∀ k : Nat, k < n → ∃ b off x, a = some ⟨b, off, none⟩ ∧ ls[k]? = some x ∧ w.cell? ⟨b, off + k * 2, none⟩ = some (.int .i64 x.1) ∧ w.cell? ⟨b, off + k * 2 + 1, none⟩ = some (.int .i64 x.2) := fun k hk => by
    obtain ⟨b, off, rfl, hc⟩ := hcs0 (by omega)
    have e1 := hc k (ls[k]'(by omega)) (List.getElem?_eq_getElem (by omega))
    exact ⟨b, off, _, rfl, List.getElem?_eq_getElem (by omega), e1⟩
  have HC := Lib.hid hcs
  have HN := Lib.hid hn
  clear hv hcs0 hcs hn
  go_enter Tryz.func105, Tryz.ntmps105
  go_upto_region 2 with fail
  obtain ⟨W1, hW1⟩ : ∃ v, v = World.alloc w (Obj.cells #[.slice a n cp] 70) := ⟨_, rfl⟩
  have kW1 : Below w.heap.size w W1 := by rw [hW1]; exact below_new _ _
  have iW1 : Blk W1 (w.heap.size) 70 [.slice a n cp] := by rw [hW1]; exact Blk.new _ _ _
  have sW1 : W1.heap.size = w.heap.size + 1 := by rw [hW1]; simp
  rw [← hW1]
  clear hW1
  obtain ⟨W2, hW2⟩ : ∃ v, v = World.alloc W1 (Obj.cells #[.slice none 0 0] 62) := ⟨_, rfl⟩
  have kW2 : Below W1.heap.size W1 W2 := by rw [hW2]; exact below_new _ _
  have iW2 : Blk W2 (w.heap.size + 1) 62 [.slice none 0 0] := by rw [hW2, ← sW1]; exact Blk.new _ _ _
  have sW2 : W2.heap.size = w.heap.size + 1 + 1 := by rw [hW2]; simp [sW1]
  rw [← hW2]
  clear hW2
  obtain ⟨W3, hW3⟩ : ∃ v, v = World.alloc W2 (Obj.cells #[.slice none 0 0] 62) := ⟨_, rfl⟩
  have kW3 : Below W2.heap.size W2 W3 := by rw [hW3]; exact below_new _ _
  have iW3 : Blk W3 (w.heap.size + 1 + 1) 62 [.slice none 0 0] := by rw [hW3, ← sW2]; exact Blk.new _ _ _
  have sW3 : W3.heap.size = w.heap.size + 1 + 1 + 1 := by rw [hW3]; simp [sW2]
  rw [← hW3]
  clear hW3
  have a0 := ((iW1.carry kW2).carry kW3).cell (j := 0) (v := .slice a n cp) rfl
  have i2 := iW2.carry kW3
  have i3 := iW3
  have hB := bthen kW1 (bthen kW2 kW3)
  have hz : W3.heap.size = w.heap.size + 3 := by omega
  clear iW1 iW2 iW3 kW1 kW2 kW3 sW1 sW2 sW3
  have hB3 : Below W3.heap.size W3 W3 := Below.refl _ _
  have HB := Lib.hid hB
  have HI2 := Lib.hid i2
  go_wp2_with fail
  clear a0 hB i2
  go_loopw [9] (fun i wr => ∃ (k : Nat) (u : Value), k ≤ n ∧ i = .int .i64 k ∧ Blk wr (w.heap.size + 1 + 1) 62 [u] ∧ wr.ownsRow W3.heap.size 152 2 u k ((flat2 (ls.take k)).map (Value.int .i64)) ∧ Blk wr (w.heap.size + 1) 62 [.slice none 0 0] ∧ Below w.heap.size w wr) (fun i _ => n - (intOf i).toNat)
  case atStart => exact ⟨0, _, by omega, rfl, i3, World.ownsRow_nil _ _ _ _, HI2.out, HB.out⟩
  case round =>
    clear i3
    obtain ⟨k, u, hk, rfl, i3, hown, i2, hB⟩ := hrel
    have hsz : W3.heap.size ≤ wr.heap.size := by have := Blk.lt i3; omega
    by_cases hlt : k < n
    · obtain ⟨b, off, x, rfl, hx, c0, c1⟩ := HC.out k hlt
      have c0 := cellb c0 hB
      have c1 := cellb c1 hB
      have hts := flat2_take_succ ls k x hx
      have HTS := Lib.hid hts
      obtain ⟨x0, x1⟩ := x
      simp only at c0 c1
      have d1 : (k : Int) < (n : Int) := by omega
      clear hx hts
      go_upto_region 5 with fail
      obtain ⟨W5, hW5⟩ : ∃ v, v = World.alloc wr (Obj.cells #[.int .i64 x0, .int .i64 x1] 153) := ⟨_, rfl⟩
      have kW5 : Below wr.heap.size wr W5 := by rw [hW5]; exact below_new _ _
      have iW5 : Blk W5 (wr.heap.size) 153 [.int .i64 x0, .int .i64 x1] := by rw [hW5]; exact Blk.new _ _ _
      have sW5 : W5.heap.size = wr.heap.size + 1 := by rw [hW5]; simp
      rw [← hW5]
      clear hW5
      have b0 := iW5.cell (j := 0) (v := .int .i64 x0) rfl
      have b1 := iW5.cell (j := 1) (v := .int .i64 x1) rfl
      replace i3 := i3.carry kW5
      replace i2 := i2.carry kW5
      replace hown := own_below hown kW5
      replace hB := bthen hB kW5
      have hs5 := kW5.size
      have a3 := i3.cell (j := 0) (v := u) rfl
      have f3 := i3.frozen 0
      clear c0 c1 kW5 iW5 sW5
      go_wp2_with (at_builtin; refine wpList_append_own _ rfl _ _ 60 rfl W3.heap.size 152 i0 (.agg #[.int .i64 0, .int .i64 0]) 2 16 Tryz.undBranchesR hi hz0 hz1 hz2 rfl (by decide) _ _ _ rfl (hown.alloc _) ⟨W5.heap.size, 0, none⟩ 1 1 [.int .i64 x0, .int .i64 x1] rfl rfl (fun j u hj => (Blk.new W5 152 [.int .i64 x0, .int .i64 x1]).news j u hj) (by simp [Value.oneCell']) (by unfold maxLen; omega) (by omega) (by simp; omega) ?_; intro v' w6 hown6 hgrow6 _; obtain ⟨g9, gc9, rfl⟩ := ownsRow_succ2 hown6; have j3 := Blk.own_kept (i3.carry (below_new W5 (.cells #[.int .i64 x0, .int .i64 x1] 152))) (hown.alloc _) (by decide) hgrow6; have j2 := Blk.own_kept (i2.carry (below_new W5 (.cells #[.int .i64 x0, .int .i64 x1] 152))) (hown.alloc _) (by decide) hgrow6; have hB6 := (bthen hB (below_new W5 (.cells #[.int .i64 x0, .int .i64 x1] 152))).grown hgrow6 (by simp; omega) (fun k' hk' => by have := (World.ownsRow.lt hown k' hk').1; omega); have a3 := j3.cell (j := 0) (v := u) rfl; have f3 := j3.frozen 0)
      refine ⟨⟨k + 1, _, by omega, by go_num, j3.set 0 (.slice (some ⟨g9, 0, none⟩) (k + 1) gc9), ?_, j2.other (by omega) _, hB6.setCell (by simp; omega) _⟩, ?_⟩
      · rw [HTS.out]
        exact own_setCell hown6 (by omega)
      · simp [intOf]; omega
    · obtain rfl : k = n := by omega
      obtain ⟨ua, uc, rfl⟩ := ownsRow_slice hown
      have hP2 : Pairs (wr.setCell ⟨w.heap.size + 1, 0, none⟩ (.slice ua k uc)) (.slice ua k uc) ls := by
        have h9 := own_setCell (x := .slice ua k uc) (B := w.heap.size + 1) (j := 0) hown (by omega)
        rw [List.take_of_length_le (by rw [HN.out]; exact Nat.le_refl _)] at h9
        exact Pairs.of_own (l := ls) (base := W3.heap.size) (e := 152) (by rw [← HN.out]; exact h9)
      have a3 := i3.cell (j := 0) (v := .slice ua k uc) rfl
      have a2 := i2.cell (j := 0) (v := .slice none 0 0) rfl
      have f2 := i2.frozen 0
      have hl2 : w.heap.size + 1 < wr.heap.size := Blk.lt i2
      have HP2 := Lib.hid hP2
      clear hown hP2
      go_wp2_with fail
      have i9 := i2.set 0 (.slice ua k uc)
      have z0 := i9.cell (j := 0) (v := .slice ua k uc) rfl
      exact bodyPost_ret (v := .agg #[.slice ua k uc]) (by simp [results, Tryz.f105, go_sem, z0]) rfl ⟨⟨_, rfl, HP2.out⟩, hB.setCell (by simp) _⟩


theorem ShortR_any (v : Value) (ls : List (Int × Int)) (w : World) (hv : Pairs w v ls) :
    Calls Tryz.prog 30 #[.agg #[v]] w fun e w' => e = .returned (.bool (decide ((ls.length : Int) ≤ 4))) ∧ Below w.heap.size w w' := by
  obtain ⟨a, cp, rfl, _, _⟩ := hv
  go_enter Tryz.func30, Tryz.ntmps30
  go_upto_region 1 with fail
  obtain ⟨W1, hW1⟩ : ∃ v, v = World.alloc w (Obj.cells #[.slice a ls.length cp] 62) := ⟨_, rfl⟩
  have kW1 : Below w.heap.size w W1 := by rw [hW1]; exact below_new _ _
  have iW1 : Blk W1 (w.heap.size) 62 [.slice a ls.length cp] := by rw [hW1]; exact Blk.new _ _ _
  have sW1 : W1.heap.size = w.heap.size + 1 := by rw [hW1]; simp
  rw [← hW1]
  clear hW1
  have a0 := iW1.cell (j := 0) (v := .slice a ls.length cp) rfl
  go_wp2
  go_ret
  exact ⟨rfl, kW1⟩
theorem CheckOrderR_any (h : Int) (w : World) :
    Calls Tryz.prog 36 #[.int .i64 h] w fun r w' => r = .returned (.int .i64 (withinE h 1 12)) ∧ w = w' := by
  go_enter Tryz.func36, Tryz.ntmps36
  go_wp2_with fail
  refine (CheckRange_any _ _ _ _).mono ?_
  rintro e w' ⟨rfl, rfl⟩
  go_wp2_with fail
  go_ret
  exact ⟨rfl, rfl⟩
set_option maxRecDepth 100000 in
set_option maxHeartbeats 4000000 in
theorem CheckFilterR_any (v : Value) (ls : List (Int × Int)) (w : World) (hv : Pairs w v ls) (hl : ls.length ≤ 1000000) :
    Calls Tryz.prog 35 #[.agg #[v]] w fun e w' => e = .returned (.int .i64 (fltE ls)) ∧ Below w.heap.size w w' := by
  obtain ⟨n, hn⟩ : ∃ n, n = ls.length := ⟨_, rfl⟩
  obtain ⟨a, cp, rfl, _, hcs0⟩ := id hv
  obtain ⟨E, hE⟩ : ∃ E, E = fltE ls := ⟨_, rfl⟩
  rw [← hE]
  rw [fltE, fltN] at hE
  rw [← hn] at hcs0 hl hE ⊢
  have hcs : ∀ k : Nat, k < n → ∃ b off x, a = some ⟨b, off, none⟩ ∧ ls[k]? = some x ∧ w.cell? ⟨b, off + k * 2, none⟩ = some (.int .i64 x.1) ∧ w.cell? ⟨b, off + k * 2 + 1, none⟩ = some (.int .i64 x.2) := fun k hk => by
    obtain ⟨b, off, rfl, hc⟩ := hcs0 (by omega)
    have e1 := hc k (ls[k]'(by omega)) (List.getElem?_eq_getElem (by omega))
    exact ⟨b, off, _, rfl, List.getElem?_eq_getElem (by omega), e1⟩
  have HC := Lib.hid hcs
  have HN := Lib.hid hn
  have T1 := Lib.hid (fun W => WhenR_any ((n : Int) == 0) 12 W)
  have T2 := Lib.hid (fun W => WhenR_any (decide ((3 : Int) < n)) 5 W)
  generalize hg1 : whenE ((n : Int) == 0) 12 = e1 at T1 hE
  generalize hg2 : whenE (decide ((3 : Int) < n)) 5 = e2 at T2 hE
  have TF := Lib.hid (fun (u : Value) (W : World) (h : Ints W u [e1, e2]) => FirstR_any u [e1, e2] W (by simp) h)
  generalize firstE [e1, e2] = eN at TF hE
  have HE := Lib.hid hE
  clear hv hcs0 hcs hn hE hg1 hg2
  go_enter Tryz.func35, Tryz.ntmps35
  go_upto_region 1 with fail
  obtain ⟨W1, hW1⟩ : ∃ v, v = World.alloc w (Obj.cells #[.slice a n cp] 62) := ⟨_, rfl⟩
  have kW1 : Below w.heap.size w W1 := by rw [hW1]; exact below_new _ _
  have iW1 : Blk W1 (w.heap.size) 62 [.slice a n cp] := by rw [hW1]; exact Blk.new _ _ _
  have sW1 : W1.heap.size = w.heap.size + 1 := by rw [hW1]; simp
  rw [← hW1]
  clear hW1
  have i1 := iW1
  have a0 := i1.cell (j := 0) (v := .slice a n cp) rfl
  have hB := kW1
  clear iW1 kW1 sW1
  refine wp_region_E 99 (by kernel_rfl) ?_
  obtain ⟨wz, hwz⟩ : ∃ v, v = W1.drew := ⟨_, rfl⟩
  rw [← hwz]
  have hlz : Below W1.heap.size W1 wz := by rw [hwz]; exact (Below.refl _ _).drew
  have hbz := bthen hB hlz
  have a0 := cellb a0 hlz
  have i1 := i1.carry hlz
  clear hwz hlz
  refine wpAnyE_take (i := 0) (oi := { dst := some 7, op := Op.fieldAddr 62 (Operand.tmp 1) 0, type := 0, pos := "ref.go:253", after := #[], guard := none }) (v := ?_) rfl (by kernel_rfl) (by kernel_rfl) (by kernel_rfl) (by kernel_rfl) (fun _ _ _ h => h) (Or.inl ⟨by rfl, ?_⟩) ?_
  rotate_left
  · (intro w hE; have a0 := cellb a0 hE; (try dsimp only); go_simp); (try with_reducible rfl)
  try simp only [Act.put, List.setIfInBounds_toArray, List.set_cons_zero, List.set_cons_succ]
  refine wpAnyE_take (i := 1) (oi := { dst := some 8, op := Op.load 60 (Operand.tmp 7), type := 60, pos := "ref.go:253", after := #[{ on := 0, ground := Ground.data }], guard := none }) (v := ?_) rfl (by kernel_rfl) (by kernel_rfl) (by kernel_rfl) (by kernel_rfl) (fun _ _ _ h => h) (Or.inl ⟨by rfl, ?_⟩) ?_
  rotate_left
  · (intro w hE; have a0 := cellb a0 hE; (try dsimp only); go_simp); (try with_reducible rfl)
  try simp only [Act.put, List.setIfInBounds_toArray, List.set_cons_zero, List.set_cons_succ]
  refine wpAnyE_take (i := 2) (oi := { dst := some 9, op := Op.call { callee := Callee.builtin Builtin.len, args := #[Operand.tmp 8], argTypes := #[60] }, type := 3, pos := "ref.go:253", after := #[{ on := 1, ground := Ground.data }], guard := none }) (v := ?_) rfl (by kernel_rfl) (by kernel_rfl) (by kernel_rfl) (by kernel_rfl) (fun _ _ _ h => h) (Or.inl ⟨by rfl, ?_⟩) ?_
  rotate_left
  · (intro w hE; have a0 := cellb a0 hE; (try dsimp only); go_simp); (try with_reducible rfl)
  try simp only [Act.put, List.setIfInBounds_toArray, List.set_cons_zero, List.set_cons_succ]
  refine wpAnyE_take (i := 3) (oi := { dst := some 10, op := Op.binOp BinOp.eql 3 (Operand.tmp 9) (Operand.const (Value.int IntKind.i64 0)) 3, type := 4, pos := "ref.go:253", after := #[{ on := 2, ground := Ground.data }], guard := none }) (v := ?_) rfl (by kernel_rfl) (by kernel_rfl) (by kernel_rfl) (by kernel_rfl) (fun _ _ _ h => h) (Or.inl ⟨by rfl, ?_⟩) ?_
  rotate_left
  · (intro w hE; have a0 := cellb a0 hE; (try dsimp only); go_simp); (try with_reducible rfl)
  try simp only [Act.put, List.setIfInBounds_toArray, List.set_cons_zero, List.set_cons_succ]
  refine wpAnyE_take (i := 5) (oi := { dst := some 12, op := Op.fieldAddr 62 (Operand.tmp 1) 0, type := 0, pos := "ref.go:253", after := #[], guard := none }) (v := ?_) rfl (by kernel_rfl) (by kernel_rfl) (by kernel_rfl) (by kernel_rfl) (fun _ _ _ h => h) (Or.inl ⟨by rfl, ?_⟩) ?_
  rotate_left
  · (intro w hE; have a0 := cellb a0 hE; (try dsimp only); go_simp); (try with_reducible rfl)
  try simp only [Act.put, List.setIfInBounds_toArray, List.set_cons_zero, List.set_cons_succ]
  refine wpAnyE_take (i := 6) (oi := { dst := some 13, op := Op.load 60 (Operand.tmp 12), type := 60, pos := "ref.go:253", after := #[{ on := 5, ground := Ground.data }], guard := none }) (v := ?_) rfl (by kernel_rfl) (by kernel_rfl) (by kernel_rfl) (by kernel_rfl) (fun _ _ _ h => h) (Or.inl ⟨by rfl, ?_⟩) ?_
  rotate_left
  · (intro w hE; have a0 := cellb a0 hE; (try dsimp only); go_simp); (try with_reducible rfl)
  try simp only [Act.put, List.setIfInBounds_toArray, List.set_cons_zero, List.set_cons_succ]
  refine wpAnyE_take (i := 7) (oi := { dst := some 14, op := Op.call { callee := Callee.builtin Builtin.len, args := #[Operand.tmp 13], argTypes := #[60] }, type := 3, pos := "ref.go:253", after := #[{ on := 6, ground := Ground.data }], guard := none }) (v := ?_) rfl (by kernel_rfl) (by kernel_rfl) (by kernel_rfl) (by kernel_rfl) (fun _ _ _ h => h) (Or.inl ⟨by rfl, ?_⟩) ?_
  rotate_left
  · (intro w hE; have a0 := cellb a0 hE; (try dsimp only); go_simp); (try with_reducible rfl)
  try simp only [Act.put, List.setIfInBounds_toArray, List.set_cons_zero, List.set_cons_succ]
  refine wpAnyE_take (i := 8) (oi := { dst := some 15, op := Op.binOp BinOp.gtr 3 (Operand.tmp 14) (Operand.const (Value.int IntKind.i64 3)) 3, type := 4, pos := "ref.go:253", after := #[{ on := 7, ground := Ground.data }], guard := none }) (v := ?_) rfl (by kernel_rfl) (by kernel_rfl) (by kernel_rfl) (by kernel_rfl) (fun _ _ _ h => h) (Or.inl ⟨by rfl, ?_⟩) ?_
  rotate_left
  · (intro w hE; have a0 := cellb a0 hE; (try dsimp only); go_simp); (try with_reducible rfl)
  try simp only [Act.put, List.setIfInBounds_toArray, List.set_cons_zero, List.set_cons_succ]
  refine wpAnyE_call (i := 4) (oi := { dst := some 11, op := Op.call { callee := Callee.value (Operand.func 37), args := #[Operand.tmp 10, Operand.const (Value.int IntKind.i64 12)], argTypes := #[4, 3] }, type := 3, pos := "ref.go:253", after := #[{ on := 3, ground := Ground.data }], guard := none }) (fun w hE => ofPure (T1.out w)) rfl (by kernel_rfl) (by kernel_rfl) (by kernel_rfl) (by kernel_rfl) (fun _ _ _ h => h) (by rfl) (fun w hE => by (try dsimp only); go_simp) ?_
  try simp only [Act.put, List.setIfInBounds_toArray, List.set_cons_zero, List.set_cons_succ]
  refine wpAnyE_call (i := 9) (oi := { dst := some 16, op := Op.call { callee := Callee.value (Operand.func 37), args := #[Operand.tmp 15, Operand.const (Value.int IntKind.i64 5)], argTypes := #[4, 3] }, type := 3, pos := "ref.go:253", after := #[{ on := 8, ground := Ground.data }, { on := 4, ground := Ground.chain }], guard := none }) (fun w hE => ofPure (T2.out w)) rfl (by kernel_rfl) (by kernel_rfl) (by kernel_rfl) (by kernel_rfl) (fun _ _ _ h => h) (by rfl) (fun w hE => by (try dsimp only); go_simp) ?_
  try simp only [Act.put, List.setIfInBounds_toArray, List.set_cons_zero, List.set_cons_succ]
  refine wpAnyE_one (i := 10) (o := { dst := some 17, op := Op.buildSlice 72 2 #[(0, Operand.tmp 11), (1, Operand.tmp 16)], type := 72, pos := "ref.go:253", after := #[{ on := 4, ground := Ground.data }, { on := 9, ground := Ground.data }], guard := none }) (by kernel_rfl) rfl (fun wy1 hE K hK => ?_)
  have a0 := cellb a0 hE
  have i1 := i1.carry hE
  have hbz1 := bthen hbz hE
  clear hE
  go_simp
  obtain ⟨wx1, hwz⟩ : ∃ v, v = wy1.alloc (Obj.cells #[.int .i64 e1, .int .i64 e2] 3) := ⟨_, rfl⟩
  rw [← hwz]
  have hl : Below wy1.heap.size wy1 wx1 := by rw [hwz]; exact below_new _ _
  have hcz1 := bthen hbz1 hl
  have iN : BlkI wx1 wy1.heap.size 3 [e1, e2] := by rw [hwz]; exact Blk.new _ _ _
  generalize wy1.heap.size = G at iN ⊢
  have a0 := cellb a0 hl
  have i1 := i1.carry hl
  clear hwz
  refine hK _ _ (fun _ => hl) ?_
  clear hK K hl
  try simp only [Act.put, List.setIfInBounds_toArray, List.set_cons_zero, List.set_cons_succ]
  refine wpAnyE_call (i := 11) (oi := { dst := some 18, op := Op.call { callee := Callee.value (Operand.func 62), args := #[Operand.tmp 17], argTypes := #[72] }, type := 3, pos := "ref.go:253", after := #[{ on := 10, ground := Ground.data }, { on := 9, ground := Ground.chain }], guard := none }) (fun w hE => ofPure (TF.out _ w ((BlkI.ints iN rfl).carry hE))) rfl (by kernel_rfl) (by kernel_rfl) (by kernel_rfl) (by kernel_rfl) (fun _ _ _ h => h) (by rfl) (fun w hE => by (try dsimp only); go_simp) ?_
  try simp only [Act.put, List.setIfInBounds_toArray, List.set_cons_zero, List.set_cons_succ]
  refine wpAnyE_take (i := 12) (oi := { dst := some 3, op := Op.assign (Operand.tmp 18), type := 3, pos := "ref.go:253", after := #[{ on := 11, ground := Ground.data }, { on := 11, ground := Ground.chain }, { on := 0, ground := Ground.phase }, { on := 1, ground := Ground.phase }, { on := 2, ground := Ground.phase }, { on := 3, ground := Ground.phase }, { on := 4, ground := Ground.phase }, { on := 5, ground := Ground.phase }, { on := 6, ground := Ground.phase }, { on := 7, ground := Ground.phase }, { on := 8, ground := Ground.phase }, { on := 9, ground := Ground.phase }, { on := 10, ground := Ground.phase }, { on := 11, ground := Ground.phase }], guard := none }) (v := ?_) rfl (by kernel_rfl) (by kernel_rfl) (by kernel_rfl) (by kernel_rfl) (fun _ _ _ h => h) (Or.inl ⟨by rfl, ?_⟩) ?_
  rotate_left
  · (intro w hE; have a0 := cellb a0 hE; (try dsimp only); go_simp); (try with_reducible rfl)
  try simp only [Act.put, List.setIfInBounds_toArray, List.set_cons_zero, List.set_cons_succ]
  refine wpAnyE_done (by kernel_rfl) (fun wy2 hE => ?_) _
  have hbz2 := bthen hcz1 hE
  have a0 := cellb a0 hE
  have i1 := i1.carry hE
  clear hE
  have hB := hbz2
  obtain ⟨W5, hW5⟩ : ∃ v, v = wy2 := ⟨_, rfl⟩
  rw [← hW5] at hB i1 ⊢
  clear hW5 a0
  clear T1 T2 TF
  by_cases he : eN = 0
  · subst he
    have hE := HE.out
    rw [orE, if_pos rfl] at hE
    have HE2 := Lib.hid hE
    clear HE hE
    go_wp2_with fail
    go_loopw [4] (fun i wr => ∃ k : Nat, k ≤ n ∧ i = .int .i64 k ∧ firstE ((ls.map brE).take k) = 0 ∧ Blk wr w.heap.size 62 [.slice a n cp] ∧ Below w.heap.size w wr) (fun i _ => n - (intOf i).toNat)
    case atStart => exact ⟨0, by omega, rfl, rfl, i1, hB⟩
    case round =>
      clear hB i1
      obtain ⟨k, hk, rfl, hf, i1, hB⟩ := hrel
      have a0 := i1.cell (j := 0) (v := .slice a n cp) rfl
      by_cases hlt : k < n
      · obtain ⟨b, off, x, rfl, hx, c0, c1⟩ := HC.out k hlt
        have c0 := cellb c0 hB
        have c1 := cellb c1 hB
        have hlm : k < (ls.map brE).length := by rw [List.length_map, ← HN.out]; exact hlt
        have hs := firstE_take_succ (ls.map brE) k hlm hf
        have hxv : (ls.map brE)[k]?.getD 0 = brE x := by rw [List.getElem?_map, hx]; rfl
        rw [hxv, brE] at hs
        obtain ⟨L, C⟩ := x
        simp only at c0 c1 hs
        have R1 := Lib.hid (fun W => CheckRange_any L 0 50 W)
        have R2 := Lib.hid (fun W => CheckRange_any C 0 2000 W)
        have R3 := Lib.hid (fun W => WhenR_any (L == 0 && C == 0) 6 W)
        generalize hbb : (L == 0 && C == 0) = bb at R3 hs
        generalize withinE L 0 50 = s1 at R1 hs
        generalize withinE C 0 2000 = s2 at R2 hs
        generalize whenE bb 6 = s3 at R3 hs
        have RF := Lib.hid (fun (u : Value) (W : World) (h : Ints W u [s1, s2, s3]) => FirstR_any u [s1, s2, s3] W (by simp) h)
        generalize firstE [s1, s2, s3] = px at RF hs
        have HS := Lib.hid hs
        have HBB := Lib.hid hbb
        have d1 : (k : Int) < n := by omega
        clear hx hf hs hxv hbb
        go_upto_region 8 with fail
        obtain ⟨W6, hW6⟩ : ∃ v, v = World.alloc wr (Obj.cells #[.int .i64 L, .int .i64 C] 152) := ⟨_, rfl⟩
        have kW6 : Below wr.heap.size wr W6 := by rw [hW6]; exact below_new _ _
        have iW6 : Blk W6 (wr.heap.size) 152 [.int .i64 L, .int .i64 C] := by rw [hW6]; exact Blk.new _ _ _
        have sW6 : W6.heap.size = wr.heap.size + 1 := by rw [hW6]; simp
        rw [← hW6]
        clear hW6
        have b0 := iW6.cell (j := 0) (v := .int .i64 L) rfl
        have b1 := iW6.cell (j := 1) (v := .int .i64 C) rfl
        replace i1 := i1.carry kW6
        replace hB := bthen hB kW6
        obtain ⟨B6, hB6⟩ : ∃ B, B = wr.heap.size := ⟨_, rfl⟩
        rw [← hB6] at b0 b1 ⊢
        clear kW6 iW6 sW6 hB6 c0 c1 a0
        go_cut [6] from 34 to 50 (fun u6 wn => u6 = .int .i64 px ∧ Blk wn w.heap.size 62 [.slice (some ⟨b, off, none⟩) n cp] ∧ Below w.heap.size w wn)
        case first =>
          by_cases hL : L = 0
          · subst hL
            obtain rfl : (C == 0) = bb := by rw [← HBB.out]; simp
            clear HBB
            refine wp_region_E 99 (by kernel_rfl) ?_
            obtain ⟨wz, hwz⟩ : ∃ v, v = W6.drew := ⟨_, rfl⟩
            rw [← hwz]
            have hlz : Below W6.heap.size W6 wz := by rw [hwz]; exact (Below.refl _ _).drew
            have hbz := bthen hB hlz
            have b0 := cellb b0 hlz
            have b1 := cellb b1 hlz
            have i1 := i1.carry hlz
            clear hwz hlz
            refine wpAnyE_take (i := 0) (oi := { dst := some 34, op := Op.fieldAddr 152 (Operand.tmp 5) 0, type := 0, pos := "ref.go:258", after := #[], guard := none }) (v := ?_) rfl (by kernel_rfl) (by kernel_rfl) (by kernel_rfl) (by kernel_rfl) (fun _ _ _ h => h) (Or.inl ⟨by rfl, ?_⟩) ?_
            rotate_left
            · (intro w hE; have b0 := cellb b0 hE; have b1 := cellb b1 hE; (try dsimp only); go_simp); (try with_reducible rfl)
            try simp only [Act.put, List.setIfInBounds_toArray, List.set_cons_zero, List.set_cons_succ]
            refine wpAnyE_take (i := 1) (oi := { dst := some 35, op := Op.load 3 (Operand.tmp 34), type := 3, pos := "ref.go:258", after := #[{ on := 0, ground := Ground.data }], guard := none }) (v := ?_) rfl (by kernel_rfl) (by kernel_rfl) (by kernel_rfl) (by kernel_rfl) (fun _ _ _ h => h) (Or.inl ⟨by rfl, ?_⟩) ?_
            rotate_left
            · (intro w hE; have b0 := cellb b0 hE; have b1 := cellb b1 hE; (try dsimp only); go_simp); (try with_reducible rfl)
            try simp only [Act.put, List.setIfInBounds_toArray, List.set_cons_zero, List.set_cons_succ]
            refine wpAnyE_take (i := 3) (oi := { dst := some 37, op := Op.fieldAddr 152 (Operand.tmp 5) 1, type := 0, pos := "ref.go:258", after := #[], guard := none }) (v := ?_) rfl (by kernel_rfl) (by kernel_rfl) (by kernel_rfl) (by kernel_rfl) (fun _ _ _ h => h) (Or.inl ⟨by rfl, ?_⟩) ?_
            rotate_left
            · (intro w hE; have b0 := cellb b0 hE; have b1 := cellb b1 hE; (try dsimp only); go_simp); (try with_reducible rfl)
            try simp only [Act.put, List.setIfInBounds_toArray, List.set_cons_zero, List.set_cons_succ]
            refine wpAnyE_take (i := 4) (oi := { dst := some 38, op := Op.load 3 (Operand.tmp 37), type := 3, pos := "ref.go:258", after := #[{ on := 3, ground := Ground.data }], guard := none }) (v := ?_) rfl (by kernel_rfl) (by kernel_rfl) (by kernel_rfl) (by kernel_rfl) (fun _ _ _ h => h) (Or.inl ⟨by rfl, ?_⟩) ?_
            rotate_left
            · (intro w hE; have b0 := cellb b0 hE; have b1 := cellb b1 hE; (try dsimp only); go_simp); (try with_reducible rfl)
            try simp only [Act.put, List.setIfInBounds_toArray, List.set_cons_zero, List.set_cons_succ]
            refine wpAnyE_take (i := 6) (oi := { dst := some 40, op := Op.fieldAddr 152 (Operand.tmp 5) 0, type := 0, pos := "ref.go:258", after := #[], guard := none }) (v := ?_) rfl (by kernel_rfl) (by kernel_rfl) (by kernel_rfl) (by kernel_rfl) (fun _ _ _ h => h) (Or.inl ⟨by rfl, ?_⟩) ?_
            rotate_left
            · (intro w hE; have b0 := cellb b0 hE; have b1 := cellb b1 hE; (try dsimp only); go_simp); (try with_reducible rfl)
            try simp only [Act.put, List.setIfInBounds_toArray, List.set_cons_zero, List.set_cons_succ]
            refine wpAnyE_take (i := 7) (oi := { dst := some 41, op := Op.load 3 (Operand.tmp 40), type := 3, pos := "ref.go:258", after := #[{ on := 6, ground := Ground.data }], guard := none }) (v := ?_) rfl (by kernel_rfl) (by kernel_rfl) (by kernel_rfl) (by kernel_rfl) (fun _ _ _ h => h) (Or.inl ⟨by rfl, ?_⟩) ?_
            rotate_left
            · (intro w hE; have b0 := cellb b0 hE; have b1 := cellb b1 hE; (try dsimp only); go_simp); (try with_reducible rfl)
            try simp only [Act.put, List.setIfInBounds_toArray, List.set_cons_zero, List.set_cons_succ]
            refine wpAnyE_take (i := 8) (oi := { dst := some 42, op := Op.binOp BinOp.eql 3 (Operand.tmp 41) (Operand.const (Value.int IntKind.i64 0)) 3, type := 4, pos := "ref.go:258", after := #[{ on := 7, ground := Ground.data }], guard := none }) (v := ?_) rfl (by kernel_rfl) (by kernel_rfl) (by kernel_rfl) (by kernel_rfl) (fun _ _ _ h => h) (Or.inl ⟨by rfl, ?_⟩) ?_
            rotate_left
            · (intro w hE; have b0 := cellb b0 hE; have b1 := cellb b1 hE; (try dsimp only); go_simp); (try with_reducible rfl)
            try simp only [Act.put, List.setIfInBounds_toArray, List.set_cons_zero, List.set_cons_succ]
            refine wpAnyE_call (i := 2) (oi := { dst := some 36, op := Op.call { callee := Callee.value (Operand.func 13), args := #[Operand.tmp 35, Operand.const (Value.int IntKind.i64 0), Operand.const (Value.int IntKind.i64 50)], argTypes := #[3, 3, 3] }, type := 3, pos := "ref.go:258", after := #[{ on := 1, ground := Ground.data }], guard := none }) (fun w hE => ofPure (R1.out w)) rfl (by kernel_rfl) (by kernel_rfl) (by kernel_rfl) (by kernel_rfl) (fun _ _ _ h => h) (by rfl) (fun w hE => by (try dsimp only); go_simp) ?_
            try simp only [Act.put, List.setIfInBounds_toArray, List.set_cons_zero, List.set_cons_succ]
            refine wpAnyE_call (i := 5) (oi := { dst := some 39, op := Op.call { callee := Callee.value (Operand.func 13), args := #[Operand.tmp 38, Operand.const (Value.int IntKind.i64 0), Operand.const (Value.int IntKind.i64 2000)], argTypes := #[3, 3, 3] }, type := 3, pos := "ref.go:258", after := #[{ on := 4, ground := Ground.data }, { on := 2, ground := Ground.chain }], guard := none }) (fun w hE => ofPure (R2.out w)) rfl (by kernel_rfl) (by kernel_rfl) (by kernel_rfl) (by kernel_rfl) (fun _ _ _ h => h) (by rfl) (fun w hE => by (try dsimp only); go_simp) ?_
            try simp only [Act.put, List.setIfInBounds_toArray, List.set_cons_zero, List.set_cons_succ]
            refine wpAnyE_take (i := 9) (oi := { dst := some 43, op := Op.move (Operand.tmp 42), type := 4, pos := "ref.go:258", after := #[{ on := 8, ground := Ground.data }, { on := 5, ground := Ground.chain }], guard := none }) (v := ?_) rfl (by kernel_rfl) (by kernel_rfl) (by kernel_rfl) (by kernel_rfl) (fun _ _ _ h => h) (Or.inl ⟨by rfl, ?_⟩) ?_
            rotate_left
            · (intro w hE; have b0 := cellb b0 hE; have b1 := cellb b1 hE; (try dsimp only); go_simp); (try with_reducible rfl)
            try simp only [Act.put, List.setIfInBounds_toArray, List.set_cons_zero, List.set_cons_succ]
            refine wpAnyE_take (i := 10) (oi := { dst := some 44, op := Op.fieldAddr 152 (Operand.tmp 5) 1, type := 0, pos := "ref.go:258", after := #[{ on := 9, ground := Ground.guard }], guard := some (9, true) }) (v := ?_) rfl (by kernel_rfl) (by kernel_rfl) (by kernel_rfl) (by kernel_rfl) (fun _ _ _ h => h) (Or.inl ⟨by rfl, ?_⟩) ?_
            rotate_left
            · (intro w hE; have b0 := cellb b0 hE; have b1 := cellb b1 hE; (try dsimp only); go_simp); (try with_reducible rfl)
            try simp only [Act.put, List.setIfInBounds_toArray, List.set_cons_zero, List.set_cons_succ]
            refine wpAnyE_take (i := 11) (oi := { dst := some 45, op := Op.load 3 (Operand.tmp 44), type := 3, pos := "ref.go:258", after := #[{ on := 10, ground := Ground.data }, { on := 9, ground := Ground.guard }], guard := some (9, true) }) (v := ?_) rfl (by kernel_rfl) (by kernel_rfl) (by kernel_rfl) (by kernel_rfl) (fun _ _ _ h => h) (Or.inl ⟨by rfl, ?_⟩) ?_
            rotate_left
            · (intro w hE; have b0 := cellb b0 hE; have b1 := cellb b1 hE; (try dsimp only); go_simp); (try with_reducible rfl)
            try simp only [Act.put, List.setIfInBounds_toArray, List.set_cons_zero, List.set_cons_succ]
            refine wpAnyE_take (i := 12) (oi := { dst := some 46, op := Op.binOp BinOp.eql 3 (Operand.tmp 45) (Operand.const (Value.int IntKind.i64 0)) 3, type := 4, pos := "ref.go:258", after := #[{ on := 11, ground := Ground.data }, { on := 9, ground := Ground.guard }], guard := some (9, true) }) (v := ?_) rfl (by kernel_rfl) (by kernel_rfl) (by kernel_rfl) (by kernel_rfl) (fun _ _ _ h => h) (Or.inl ⟨by rfl, ?_⟩) ?_
            rotate_left
            · (intro w hE; have b0 := cellb b0 hE; have b1 := cellb b1 hE; (try dsimp only); go_simp); (try with_reducible rfl)
            try simp only [Act.put, List.setIfInBounds_toArray, List.set_cons_zero, List.set_cons_succ]
            refine wpAnyE_take (i := 13) (oi := { dst := some 47, op := Op.pick (Operand.tmp 43) (Operand.tmp 46) (Operand.const (Value.bool false)), type := 4, pos := "ref.go:258", after := #[{ on := 9, ground := Ground.data }, { on := 12, ground := Ground.data }], guard := none }) (v := ?_) rfl (by kernel_rfl) (by kernel_rfl) (by kernel_rfl) (by kernel_rfl) (fun _ _ _ h => h) (Or.inl ⟨by rfl, ?_⟩) ?_
            rotate_left
            · (intro w hE; have b0 := cellb b0 hE; have b1 := cellb b1 hE; (try dsimp only); go_simp); (try with_reducible rfl)
            try simp only [Act.put, List.setIfInBounds_toArray, List.set_cons_zero, List.set_cons_succ]
            refine wpAnyE_call (i := 14) (oi := { dst := some 48, op := Op.call { callee := Callee.value (Operand.func 37), args := #[Operand.tmp 47, Operand.const (Value.int IntKind.i64 6)], argTypes := #[4, 3] }, type := 3, pos := "ref.go:258", after := #[{ on := 13, ground := Ground.data }, { on := 9, ground := Ground.chain }], guard := none }) (fun w hE => ofPure (R3.out w)) rfl (by kernel_rfl) (by kernel_rfl) (by kernel_rfl) (by kernel_rfl) (fun _ _ _ h => h) (by rfl) (fun w hE => by (try dsimp only); go_simp) ?_
            try simp only [Act.put, List.setIfInBounds_toArray, List.set_cons_zero, List.set_cons_succ]
            refine wpAnyE_one (i := 15) (o := { dst := some 49, op := Op.buildSlice 72 3 #[(0, Operand.tmp 36), (1, Operand.tmp 39), (2, Operand.tmp 48)], type := 72, pos := "ref.go:258", after := #[{ on := 2, ground := Ground.data }, { on := 5, ground := Ground.data }, { on := 14, ground := Ground.data }], guard := none }) (by kernel_rfl) rfl (fun wy1 hE K hK => ?_)
            have b0 := cellb b0 hE
            have b1 := cellb b1 hE
            have i1 := i1.carry hE
            have hbz1 := bthen hbz hE
            clear hE
            go_simp
            obtain ⟨wx1, hwz⟩ : ∃ v, v = wy1.alloc (Obj.cells #[.int .i64 s1, .int .i64 s2, .int .i64 s3] 3) := ⟨_, rfl⟩
            rw [← hwz]
            have hl : Below wy1.heap.size wy1 wx1 := by rw [hwz]; exact below_new _ _
            have hcz1 := bthen hbz1 hl
            have iN : BlkI wx1 wy1.heap.size 3 [s1, s2, s3] := by rw [hwz]; exact Blk.new _ _ _
            generalize wy1.heap.size = G at iN ⊢
            have b0 := cellb b0 hl
            have b1 := cellb b1 hl
            have i1 := i1.carry hl
            clear hwz
            refine hK _ _ (fun _ => hl) ?_
            clear hK K hl
            try simp only [Act.put, List.setIfInBounds_toArray, List.set_cons_zero, List.set_cons_succ]
            refine wpAnyE_call (i := 16) (oi := { dst := some 50, op := Op.call { callee := Callee.value (Operand.func 62), args := #[Operand.tmp 49], argTypes := #[72] }, type := 3, pos := "ref.go:258", after := #[{ on := 15, ground := Ground.data }, { on := 14, ground := Ground.chain }], guard := none }) (fun w hE => ofPure (RF.out _ w ((BlkI.ints iN rfl).carry hE))) rfl (by kernel_rfl) (by kernel_rfl) (by kernel_rfl) (by kernel_rfl) (fun _ _ _ h => h) (by rfl) (fun w hE => by (try dsimp only); go_simp) ?_
            try simp only [Act.put, List.setIfInBounds_toArray, List.set_cons_zero, List.set_cons_succ]
            refine wpAnyE_take (i := 17) (oi := { dst := some 6, op := Op.assign (Operand.tmp 50), type := 3, pos := "ref.go:258", after := #[{ on := 16, ground := Ground.data }, { on := 16, ground := Ground.chain }, { on := 0, ground := Ground.phase }, { on := 1, ground := Ground.phase }, { on := 2, ground := Ground.phase }, { on := 3, ground := Ground.phase }, { on := 4, ground := Ground.phase }, { on := 5, ground := Ground.phase }, { on := 6, ground := Ground.phase }, { on := 7, ground := Ground.phase }, { on := 8, ground := Ground.phase }, { on := 9, ground := Ground.phase }, { on := 10, ground := Ground.phase }, { on := 11, ground := Ground.phase }, { on := 12, ground := Ground.phase }, { on := 13, ground := Ground.phase }, { on := 14, ground := Ground.phase }, { on := 15, ground := Ground.phase }, { on := 16, ground := Ground.phase }], guard := none }) (v := ?_) rfl (by kernel_rfl) (by kernel_rfl) (by kernel_rfl) (by kernel_rfl) (fun _ _ _ h => h) (Or.inl ⟨by rfl, ?_⟩) ?_
            rotate_left
            · (intro w hE; have b0 := cellb b0 hE; have b1 := cellb b1 hE; (try dsimp only); go_simp); (try with_reducible rfl)
            try simp only [Act.put, List.setIfInBounds_toArray, List.set_cons_zero, List.set_cons_succ]
            refine wpAnyE_done (by kernel_rfl) (fun wy2 hE => ?_) _
            have hbz2 := bthen hcz1 hE
            have b0 := cellb b0 hE
            have b1 := cellb b1 hE
            have i1 := i1.carry hE
            clear hE
            have hB := hbz2
            go_wp2_with fail
            go_meet
            exact ⟨rfl, i1, hB⟩
          · have hLb : (L == 0) = false := by rw [beq_eq_false_iff_ne]; exact hL
            obtain rfl : bb = false := by rw [← HBB.out, hLb]; rfl
            clear HBB
            refine wp_region_E 99 (by kernel_rfl) ?_
            obtain ⟨wz, hwz⟩ : ∃ v, v = W6.drew := ⟨_, rfl⟩
            rw [← hwz]
            have hlz : Below W6.heap.size W6 wz := by rw [hwz]; exact (Below.refl _ _).drew
            have hbz := bthen hB hlz
            have b0 := cellb b0 hlz
            have b1 := cellb b1 hlz
            have i1 := i1.carry hlz
            clear hwz hlz
            refine wpAnyE_take (i := 0) (oi := { dst := some 34, op := Op.fieldAddr 152 (Operand.tmp 5) 0, type := 0, pos := "ref.go:258", after := #[], guard := none }) (v := ?_) rfl (by kernel_rfl) (by kernel_rfl) (by kernel_rfl) (by kernel_rfl) (fun _ _ _ h => h) (Or.inl ⟨by rfl, ?_⟩) ?_
            rotate_left
            · (intro w hE; have b0 := cellb b0 hE; have b1 := cellb b1 hE; (try dsimp only); go_simp); (try with_reducible rfl)
            try simp only [Act.put, List.setIfInBounds_toArray, List.set_cons_zero, List.set_cons_succ]
            refine wpAnyE_take (i := 1) (oi := { dst := some 35, op := Op.load 3 (Operand.tmp 34), type := 3, pos := "ref.go:258", after := #[{ on := 0, ground := Ground.data }], guard := none }) (v := ?_) rfl (by kernel_rfl) (by kernel_rfl) (by kernel_rfl) (by kernel_rfl) (fun _ _ _ h => h) (Or.inl ⟨by rfl, ?_⟩) ?_
            rotate_left
            · (intro w hE; have b0 := cellb b0 hE; have b1 := cellb b1 hE; (try dsimp only); go_simp); (try with_reducible rfl)
            try simp only [Act.put, List.setIfInBounds_toArray, List.set_cons_zero, List.set_cons_succ]
            refine wpAnyE_take (i := 3) (oi := { dst := some 37, op := Op.fieldAddr 152 (Operand.tmp 5) 1, type := 0, pos := "ref.go:258", after := #[], guard := none }) (v := ?_) rfl (by kernel_rfl) (by kernel_rfl) (by kernel_rfl) (by kernel_rfl) (fun _ _ _ h => h) (Or.inl ⟨by rfl, ?_⟩) ?_
            rotate_left
            · (intro w hE; have b0 := cellb b0 hE; have b1 := cellb b1 hE; (try dsimp only); go_simp); (try with_reducible rfl)
            try simp only [Act.put, List.setIfInBounds_toArray, List.set_cons_zero, List.set_cons_succ]
            refine wpAnyE_take (i := 4) (oi := { dst := some 38, op := Op.load 3 (Operand.tmp 37), type := 3, pos := "ref.go:258", after := #[{ on := 3, ground := Ground.data }], guard := none }) (v := ?_) rfl (by kernel_rfl) (by kernel_rfl) (by kernel_rfl) (by kernel_rfl) (fun _ _ _ h => h) (Or.inl ⟨by rfl, ?_⟩) ?_
            rotate_left
            · (intro w hE; have b0 := cellb b0 hE; have b1 := cellb b1 hE; (try dsimp only); go_simp); (try with_reducible rfl)
            try simp only [Act.put, List.setIfInBounds_toArray, List.set_cons_zero, List.set_cons_succ]
            refine wpAnyE_take (i := 6) (oi := { dst := some 40, op := Op.fieldAddr 152 (Operand.tmp 5) 0, type := 0, pos := "ref.go:258", after := #[], guard := none }) (v := ?_) rfl (by kernel_rfl) (by kernel_rfl) (by kernel_rfl) (by kernel_rfl) (fun _ _ _ h => h) (Or.inl ⟨by rfl, ?_⟩) ?_
            rotate_left
            · (intro w hE; have b0 := cellb b0 hE; have b1 := cellb b1 hE; (try dsimp only); go_simp); (try with_reducible rfl)
            try simp only [Act.put, List.setIfInBounds_toArray, List.set_cons_zero, List.set_cons_succ]
            refine wpAnyE_take (i := 7) (oi := { dst := some 41, op := Op.load 3 (Operand.tmp 40), type := 3, pos := "ref.go:258", after := #[{ on := 6, ground := Ground.data }], guard := none }) (v := ?_) rfl (by kernel_rfl) (by kernel_rfl) (by kernel_rfl) (by kernel_rfl) (fun _ _ _ h => h) (Or.inl ⟨by rfl, ?_⟩) ?_
            rotate_left
            · (intro w hE; have b0 := cellb b0 hE; have b1 := cellb b1 hE; (try dsimp only); go_simp); (try with_reducible rfl)
            try simp only [Act.put, List.setIfInBounds_toArray, List.set_cons_zero, List.set_cons_succ]
            refine wpAnyE_take (i := 8) (oi := { dst := some 42, op := Op.binOp BinOp.eql 3 (Operand.tmp 41) (Operand.const (Value.int IntKind.i64 0)) 3, type := 4, pos := "ref.go:258", after := #[{ on := 7, ground := Ground.data }], guard := none }) (v := ?_) rfl (by kernel_rfl) (by kernel_rfl) (by kernel_rfl) (by kernel_rfl) (fun _ _ _ h => h) (Or.inl ⟨by rfl, ?_⟩) ?_
            rotate_left
            · (intro w hE; have b0 := cellb b0 hE; have b1 := cellb b1 hE; (try dsimp only); go_simp); (try with_reducible rfl)
            try simp only [Act.put, List.setIfInBounds_toArray, List.set_cons_zero, List.set_cons_succ]
            refine wpAnyE_call (i := 2) (oi := { dst := some 36, op := Op.call { callee := Callee.value (Operand.func 13), args := #[Operand.tmp 35, Operand.const (Value.int IntKind.i64 0), Operand.const (Value.int IntKind.i64 50)], argTypes := #[3, 3, 3] }, type := 3, pos := "ref.go:258", after := #[{ on := 1, ground := Ground.data }], guard := none }) (fun w hE => ofPure (R1.out w)) rfl (by kernel_rfl) (by kernel_rfl) (by kernel_rfl) (by kernel_rfl) (fun _ _ _ h => h) (by rfl) (fun w hE => by (try dsimp only); go_simp) ?_
            try simp only [Act.put, List.setIfInBounds_toArray, List.set_cons_zero, List.set_cons_succ]
            refine wpAnyE_call (i := 5) (oi := { dst := some 39, op := Op.call { callee := Callee.value (Operand.func 13), args := #[Operand.tmp 38, Operand.const (Value.int IntKind.i64 0), Operand.const (Value.int IntKind.i64 2000)], argTypes := #[3, 3, 3] }, type := 3, pos := "ref.go:258", after := #[{ on := 4, ground := Ground.data }, { on := 2, ground := Ground.chain }], guard := none }) (fun w hE => ofPure (R2.out w)) rfl (by kernel_rfl) (by kernel_rfl) (by kernel_rfl) (by kernel_rfl) (fun _ _ _ h => h) (by rfl) (fun w hE => by (try dsimp only); go_simp) ?_
            try simp only [Act.put, List.setIfInBounds_toArray, List.set_cons_zero, List.set_cons_succ]
            refine wpAnyE_take (i := 9) (oi := { dst := some 43, op := Op.move (Operand.tmp 42), type := 4, pos := "ref.go:258", after := #[{ on := 8, ground := Ground.data }, { on := 5, ground := Ground.chain }], guard := none }) (v := ?_) rfl (by kernel_rfl) (by kernel_rfl) (by kernel_rfl) (by kernel_rfl) (fun _ _ _ h => h) (Or.inl ⟨by rfl, ?_⟩) ?_
            rotate_left
            · (intro w hE; have b0 := cellb b0 hE; have b1 := cellb b1 hE; (try dsimp only); go_simp); (try with_reducible rfl)
            try simp only [Act.put, List.setIfInBounds_toArray, List.set_cons_zero, List.set_cons_succ]
            refine wpAnyE_take (i := 10) (oi := { dst := some 44, op := Op.fieldAddr 152 (Operand.tmp 5) 1, type := 0, pos := "ref.go:258", after := #[{ on := 9, ground := Ground.guard }], guard := some (9, true) }) (v := undef) rfl (by kernel_rfl) (by kernel_rfl) (by kernel_rfl) (by kernel_rfl) (fun _ _ _ h => h) (Or.inr (Or.inr ⟨by rfl, rfl⟩)) ?_
            try simp only [Act.put, List.setIfInBounds_toArray, List.set_cons_zero, List.set_cons_succ]
            refine wpAnyE_take (i := 11) (oi := { dst := some 45, op := Op.load 3 (Operand.tmp 44), type := 3, pos := "ref.go:258", after := #[{ on := 10, ground := Ground.data }, { on := 9, ground := Ground.guard }], guard := some (9, true) }) (v := undef) rfl (by kernel_rfl) (by kernel_rfl) (by kernel_rfl) (by kernel_rfl) (fun _ _ _ h => h) (Or.inr (Or.inr ⟨by rfl, rfl⟩)) ?_
            try simp only [Act.put, List.setIfInBounds_toArray, List.set_cons_zero, List.set_cons_succ]
            refine wpAnyE_take (i := 12) (oi := { dst := some 46, op := Op.binOp BinOp.eql 3 (Operand.tmp 45) (Operand.const (Value.int IntKind.i64 0)) 3, type := 4, pos := "ref.go:258", after := #[{ on := 11, ground := Ground.data }, { on := 9, ground := Ground.guard }], guard := some (9, true) }) (v := undef) rfl (by kernel_rfl) (by kernel_rfl) (by kernel_rfl) (by kernel_rfl) (fun _ _ _ h => h) (Or.inr (Or.inr ⟨by rfl, rfl⟩)) ?_
            try simp only [Act.put, List.setIfInBounds_toArray, List.set_cons_zero, List.set_cons_succ]
            refine wpAnyE_take (i := 13) (oi := { dst := some 47, op := Op.pick (Operand.tmp 43) (Operand.tmp 46) (Operand.const (Value.bool false)), type := 4, pos := "ref.go:258", after := #[{ on := 9, ground := Ground.data }, { on := 12, ground := Ground.data }], guard := none }) (v := ?_) rfl (by kernel_rfl) (by kernel_rfl) (by kernel_rfl) (by kernel_rfl) (fun _ _ _ h => h) (Or.inl ⟨by rfl, ?_⟩) ?_
            rotate_left
            · (intro w hE; have b0 := cellb b0 hE; have b1 := cellb b1 hE; (try dsimp only); go_simp); (try with_reducible rfl)
            try simp only [Act.put, List.setIfInBounds_toArray, List.set_cons_zero, List.set_cons_succ]
            refine wpAnyE_call (i := 14) (oi := { dst := some 48, op := Op.call { callee := Callee.value (Operand.func 37), args := #[Operand.tmp 47, Operand.const (Value.int IntKind.i64 6)], argTypes := #[4, 3] }, type := 3, pos := "ref.go:258", after := #[{ on := 13, ground := Ground.data }, { on := 9, ground := Ground.chain }], guard := none }) (fun w hE => ofPure (R3.out w)) rfl (by kernel_rfl) (by kernel_rfl) (by kernel_rfl) (by kernel_rfl) (fun _ _ _ h => h) (by rfl) (fun w hE => by (try dsimp only); go_simp) ?_
            try simp only [Act.put, List.setIfInBounds_toArray, List.set_cons_zero, List.set_cons_succ]
            refine wpAnyE_one (i := 15) (o := { dst := some 49, op := Op.buildSlice 72 3 #[(0, Operand.tmp 36), (1, Operand.tmp 39), (2, Operand.tmp 48)], type := 72, pos := "ref.go:258", after := #[{ on := 2, ground := Ground.data }, { on := 5, ground := Ground.data }, { on := 14, ground := Ground.data }], guard := none }) (by kernel_rfl) rfl (fun wy1 hE K hK => ?_)
            have b0 := cellb b0 hE
            have b1 := cellb b1 hE
            have i1 := i1.carry hE
            have hbz1 := bthen hbz hE
            clear hE
            go_simp
            obtain ⟨wx1, hwz⟩ : ∃ v, v = wy1.alloc (Obj.cells #[.int .i64 s1, .int .i64 s2, .int .i64 s3] 3) := ⟨_, rfl⟩
            rw [← hwz]
            have hl : Below wy1.heap.size wy1 wx1 := by rw [hwz]; exact below_new _ _
            have hcz1 := bthen hbz1 hl
            have iN : BlkI wx1 wy1.heap.size 3 [s1, s2, s3] := by rw [hwz]; exact Blk.new _ _ _
            generalize wy1.heap.size = G at iN ⊢
            have b0 := cellb b0 hl
            have b1 := cellb b1 hl
            have i1 := i1.carry hl
            clear hwz
            refine hK _ _ (fun _ => hl) ?_
            clear hK K hl
            try simp only [Act.put, List.setIfInBounds_toArray, List.set_cons_zero, List.set_cons_succ]
            refine wpAnyE_call (i := 16) (oi := { dst := some 50, op := Op.call { callee := Callee.value (Operand.func 62), args := #[Operand.tmp 49], argTypes := #[72] }, type := 3, pos := "ref.go:258", after := #[{ on := 15, ground := Ground.data }, { on := 14, ground := Ground.chain }], guard := none }) (fun w hE => ofPure (RF.out _ w ((BlkI.ints iN rfl).carry hE))) rfl (by kernel_rfl) (by kernel_rfl) (by kernel_rfl) (by kernel_rfl) (fun _ _ _ h => h) (by rfl) (fun w hE => by (try dsimp only); go_simp) ?_
            try simp only [Act.put, List.setIfInBounds_toArray, List.set_cons_zero, List.set_cons_succ]
            refine wpAnyE_take (i := 17) (oi := { dst := some 6, op := Op.assign (Operand.tmp 50), type := 3, pos := "ref.go:258", after := #[{ on := 16, ground := Ground.data }, { on := 16, ground := Ground.chain }, { on := 0, ground := Ground.phase }, { on := 1, ground := Ground.phase }, { on := 2, ground := Ground.phase }, { on := 3, ground := Ground.phase }, { on := 4, ground := Ground.phase }, { on := 5, ground := Ground.phase }, { on := 6, ground := Ground.phase }, { on := 7, ground := Ground.phase }, { on := 8, ground := Ground.phase }, { on := 9, ground := Ground.phase }, { on := 10, ground := Ground.phase }, { on := 11, ground := Ground.phase }, { on := 12, ground := Ground.phase }, { on := 13, ground := Ground.phase }, { on := 14, ground := Ground.phase }, { on := 15, ground := Ground.phase }, { on := 16, ground := Ground.phase }], guard := none }) (v := ?_) rfl (by kernel_rfl) (by kernel_rfl) (by kernel_rfl) (by kernel_rfl) (fun _ _ _ h => h) (Or.inl ⟨by rfl, ?_⟩) ?_
            rotate_left
            · (intro w hE; have b0 := cellb b0 hE; have b1 := cellb b1 hE; (try dsimp only); go_simp); (try with_reducible rfl)
            try simp only [Act.put, List.setIfInBounds_toArray, List.set_cons_zero, List.set_cons_succ]
            refine wpAnyE_done (by kernel_rfl) (fun wy2 hE => ?_) _
            have hbz2 := bthen hcz1 hE
            have b0 := cellb b0 hE
            have b1 := cellb b1 hE
            have i1 := i1.carry hE
            clear hE
            have hB := hbz2
            go_wp2_with fail
            go_meet
            exact ⟨rfl, i1, hB⟩
        case rest =>
          obtain ⟨rfl, i1, hB⟩ := hcut
          by_cases hz : px = 0
          · go_wp2
            go_roundw
            case rel => exact ⟨k + 1, by omega, by go_num, by rw [HS.out]; exact hz, i1, hB⟩
            case measure => simp [intOf]; omega
          · have hE3 : E = px := by
              have h9 := firstE_of_take (ls.map brE) (k + 1) (by rw [HS.out]; exact hz)
              rw [HE2.out, h9, HS.out]
            have HE3 := Lib.hid hE3
            have z : (px == 0) = false := by rw [beq_eq_false_iff_ne]; exact hz
            clear hE3
            go_wp2
            go_ret
            exact ⟨ret_int HE3.out.symm, hB⟩
      · obtain rfl : k = n := by omega
        rw [List.take_of_length_le (by rw [List.length_map, ← HN.out]; exact Nat.le_refl _)] at hf
        have hE3 : E = 0 := by rw [HE2.out]; exact hf
        have HE3 := Lib.hid hE3
        clear hf hE3
        go_wp2
        go_ret
        exact ⟨ret_int HE3.out.symm, hB⟩
  · have z : (eN == 0) = false := by rw [beq_eq_false_iff_ne]; exact he
    have HNE := Lib.hid he
    go_wp2_with fail
    go_ret
    exact ⟨ret_int (by rw [HE.out, orE, if_neg HNE.out]), hB⟩

/-- the reference's way to ask whether a filter is tuned. -/
def tunedR (ls : List (Int × Int)) (h : Int) : Bool := ls.any fun x => wrap64 (wrap64 (h * h) * x.1) == x.2
set_option maxRecDepth 100000 in
set_option maxHeartbeats 2000000 in
theorem IsTunedR_any (v : Value) (ls : List (Int × Int)) (h : Int) (w : World) (hv : Pairs w v ls) (hl : ls.length ≤ 1000000) :
    Calls Tryz.prog 38 #[.agg #[v], .int .i64 h] w fun e w' => e = .returned (.bool (tunedR ls h)) ∧ Below w.heap.size w w' := by
  obtain ⟨n, hn⟩ : ∃ n, n = ls.length := ⟨_, rfl⟩
  obtain ⟨a, cp, rfl, _, hcs0⟩ := id hv
  obtain ⟨R, hR⟩ : ∃ R, R = tunedR ls h := ⟨_, rfl⟩
  rw [← hR]
  rw [tunedR] at hR
  rw [← hn] at hcs0 hl ⊢
  have hcs : ∀ k : Nat, k < n → ∃ b off x, a = some ⟨b, off, none⟩ ∧ ls[k]? = some x ∧ w.cell? ⟨b, off + k * 2, none⟩ = some (.int .i64 x.1) ∧ w.cell? ⟨b, off + k * 2 + 1, none⟩ = some (.int .i64 x.2) := fun k hk => by
    obtain ⟨b, off, rfl, hc⟩ := hcs0 (by omega)
    have e1 := hc k (ls[k]'(by omega)) (List.getElem?_eq_getElem (by omega))
    exact ⟨b, off, _, rfl, List.getElem?_eq_getElem (by omega), e1⟩
  have HC := Lib.hid hcs
  have HN := Lib.hid hn
  have HR := Lib.hid hR
  have hhh : IntKind.i64.wrap (h * h) = wrap64 (h * h) := by rw [wrapEq]
  generalize wrap64 (h * h) = hh at hhh HR
  clear hv hcs0 hcs hn hR
  go_enter Tryz.func38, Tryz.ntmps38
  go_upto_region 1 with fail
  obtain ⟨W1, hW1⟩ : ∃ v, v = World.alloc w (Obj.cells #[.slice a n cp] 62) := ⟨_, rfl⟩
  have kW1 : Below w.heap.size w W1 := by rw [hW1]; exact below_new _ _
  have iW1 : Blk W1 (w.heap.size) 62 [.slice a n cp] := by rw [hW1]; exact Blk.new _ _ _
  have sW1 : W1.heap.size = w.heap.size + 1 := by rw [hW1]; simp
  rw [← hW1]
  clear hW1
  have i1 := iW1
  have hB := kW1
  clear iW1 kW1 sW1
  go_wp2_with fail
  go_loopw [5] (fun i wr => ∃ k : Nat, k ≤ n ∧ i = .int .i64 k ∧ (ls.take k).any (fun x => wrap64 (hh * x.1) == x.2) = false ∧ Blk wr w.heap.size 62 [.slice a n cp] ∧ Below w.heap.size w wr) (fun i _ => n - (intOf i).toNat)
  case atStart => exact ⟨0, by omega, rfl, rfl, i1, hB⟩
  case round =>
    clear hB i1
    obtain ⟨k, hk, rfl, hf, i1, hB⟩ := hrel
    have HF := Lib.hid hf
    clear hf
    have a0 := i1.cell (j := 0) (v := .slice a n cp) rfl
    by_cases hlt : k < n
    · obtain ⟨b, off, x, rfl, hx, c0, c1⟩ := HC.out k hlt
      have c0 := cellb c0 hB
      have c1 := cellb c1 hB
      have HX := Lib.hid hx
      obtain ⟨L, C⟩ := x
      simp only at c0 c1
      have hm : IntKind.i64.wrap (hh * L) = wrap64 (hh * L) := by rw [wrapEq]
      obtain ⟨M, hM⟩ : ∃ M, M = wrap64 (hh * L) := ⟨_, rfl⟩
      rw [← hM] at hm
      have HM := Lib.hid hM
      have d1 : (k : Int) < n := by omega
      clear hx hM
      go_upto_region 4 with fail
      refine wp_region_E 99 (by kernel_rfl) ?_
      obtain ⟨wz, hwz⟩ : ∃ v, v = wr.drew := ⟨_, rfl⟩
      rw [← hwz]
      have hlz : Below wr.heap.size wr wz := by rw [hwz]; exact (Below.refl _ _).drew
      have hbz := bthen hB hlz
      have a0 := cellb a0 hlz
      have c0 := cellb c0 hlz
      have c1 := cellb c1 hlz
      have i1 := i1.carry hlz
      clear hwz hlz
      refine wpAnyE_take (i := 0) (oi := { dst := some 13, op := Op.move (Operand.tmp 1), type := 3, pos := "ref.go:271", after := #[], guard := none }) (v := ?_) rfl (by kernel_rfl) (by kernel_rfl) (by kernel_rfl) (by kernel_rfl) (fun _ _ _ h => h) (Or.inl ⟨by rfl, ?_⟩) ?_
      rotate_left
      · (intro w hE; have a0 := cellb a0 hE; have c0 := cellb c0 hE; have c1 := cellb c1 hE; (try dsimp only); go_simp); (try with_reducible rfl)
      try simp only [Act.put, List.setIfInBounds_toArray, List.set_cons_zero, List.set_cons_succ]
      refine wpAnyE_take (i := 1) (oi := { dst := some 14, op := Op.move (Operand.tmp 1), type := 3, pos := "ref.go:271", after := #[], guard := none }) (v := ?_) rfl (by kernel_rfl) (by kernel_rfl) (by kernel_rfl) (by kernel_rfl) (fun _ _ _ h => h) (Or.inl ⟨by rfl, ?_⟩) ?_
      rotate_left
      · (intro w hE; have a0 := cellb a0 hE; have c0 := cellb c0 hE; have c1 := cellb c1 hE; (try dsimp only); go_simp); (try with_reducible rfl)
      try simp only [Act.put, List.setIfInBounds_toArray, List.set_cons_zero, List.set_cons_succ]
      refine wpAnyE_take (i := 2) (oi := { dst := some 15, op := Op.binOp BinOp.mul 3 (Operand.tmp 13) (Operand.tmp 14) 3, type := 3, pos := "ref.go:271", after := #[{ on := 0, ground := Ground.data }, { on := 1, ground := Ground.data }], guard := none }) (v := ?_) rfl (by kernel_rfl) (by kernel_rfl) (by kernel_rfl) (by kernel_rfl) (fun _ _ _ h => h) (Or.inl ⟨by rfl, ?_⟩) ?_
      rotate_left
      · (intro w hE; have a0 := cellb a0 hE; have c0 := cellb c0 hE; have c1 := cellb c1 hE; (try dsimp only); go_simp); (try with_reducible rfl)
      try simp only [Act.put, List.setIfInBounds_toArray, List.set_cons_zero, List.set_cons_succ]
      refine wpAnyE_take (i := 3) (oi := { dst := some 16, op := Op.fieldAddr 62 (Operand.tmp 2) 0, type := 0, pos := "ref.go:271", after := #[], guard := none }) (v := ?_) rfl (by kernel_rfl) (by kernel_rfl) (by kernel_rfl) (by kernel_rfl) (fun _ _ _ h => h) (Or.inl ⟨by rfl, ?_⟩) ?_
      rotate_left
      · (intro w hE; have a0 := cellb a0 hE; have c0 := cellb c0 hE; have c1 := cellb c1 hE; (try dsimp only); go_simp); (try with_reducible rfl)
      try simp only [Act.put, List.setIfInBounds_toArray, List.set_cons_zero, List.set_cons_succ]
      refine wpAnyE_take (i := 4) (oi := { dst := some 17, op := Op.load 60 (Operand.tmp 16), type := 60, pos := "ref.go:271", after := #[{ on := 3, ground := Ground.data }], guard := none }) (v := ?_) rfl (by kernel_rfl) (by kernel_rfl) (by kernel_rfl) (by kernel_rfl) (fun _ _ _ h => h) (Or.inl ⟨by rfl, ?_⟩) ?_
      rotate_left
      · (intro w hE; have a0 := cellb a0 hE; have c0 := cellb c0 hE; have c1 := cellb c1 hE; (try dsimp only); go_simp); (try with_reducible rfl)
      try simp only [Act.put, List.setIfInBounds_toArray, List.set_cons_zero, List.set_cons_succ]
      refine wpAnyE_take (i := 5) (oi := { dst := some 18, op := Op.move (Operand.tmp 5), type := 3, pos := "ref.go:271", after := #[], guard := none }) (v := ?_) rfl (by kernel_rfl) (by kernel_rfl) (by kernel_rfl) (by kernel_rfl) (fun _ _ _ h => h) (Or.inl ⟨by rfl, ?_⟩) ?_
      rotate_left
      · (intro w hE; have a0 := cellb a0 hE; have c0 := cellb c0 hE; have c1 := cellb c1 hE; (try dsimp only); go_simp); (try with_reducible rfl)
      try simp only [Act.put, List.setIfInBounds_toArray, List.set_cons_zero, List.set_cons_succ]
      refine wpAnyE_take (i := 6) (oi := { dst := some 19, op := Op.indexAddr 60 (Operand.tmp 17) (Operand.tmp 18), type := 0, pos := "ref.go:271", after := #[{ on := 4, ground := Ground.data }, { on := 5, ground := Ground.data }], guard := none }) (v := ?_) rfl (by kernel_rfl) (by kernel_rfl) (by kernel_rfl) (by kernel_rfl) (fun _ _ _ h => h) (Or.inl ⟨by rfl, ?_⟩) ?_
      rotate_left
      · (intro w hE; have a0 := cellb a0 hE; have c0 := cellb c0 hE; have c1 := cellb c1 hE; (try dsimp only); go_simp); (try with_reducible rfl)
      try simp only [Act.put, List.setIfInBounds_toArray, List.set_cons_zero, List.set_cons_succ]
      refine wpAnyE_take (i := 7) (oi := { dst := some 20, op := Op.fieldAddr 152 (Operand.tmp 19) 0, type := 0, pos := "ref.go:271", after := #[{ on := 6, ground := Ground.data }], guard := none }) (v := ?_) rfl (by kernel_rfl) (by kernel_rfl) (by kernel_rfl) (by kernel_rfl) (fun _ _ _ h => h) (Or.inl ⟨by rfl, ?_⟩) ?_
      rotate_left
      · (intro w hE; have a0 := cellb a0 hE; have c0 := cellb c0 hE; have c1 := cellb c1 hE; (try dsimp only); go_simp); (try with_reducible rfl)
      try simp only [Act.put, List.setIfInBounds_toArray, List.set_cons_zero, List.set_cons_succ]
      refine wpAnyE_take (i := 8) (oi := { dst := some 21, op := Op.load 3 (Operand.tmp 20), type := 3, pos := "ref.go:271", after := #[{ on := 7, ground := Ground.data }], guard := none }) (v := ?_) rfl (by kernel_rfl) (by kernel_rfl) (by kernel_rfl) (by kernel_rfl) (fun _ _ _ h => h) (Or.inl ⟨by rfl, ?_⟩) ?_
      rotate_left
      · (intro w hE; have a0 := cellb a0 hE; have c0 := cellb c0 hE; have c1 := cellb c1 hE; (try dsimp only); go_simp); (try with_reducible rfl)
      try simp only [Act.put, List.setIfInBounds_toArray, List.set_cons_zero, List.set_cons_succ]
      refine wpAnyE_take (i := 9) (oi := { dst := some 22, op := Op.binOp BinOp.mul 3 (Operand.tmp 15) (Operand.tmp 21) 3, type := 3, pos := "ref.go:271", after := #[{ on := 2, ground := Ground.data }, { on := 8, ground := Ground.data }], guard := none }) (v := ?_) rfl (by kernel_rfl) (by kernel_rfl) (by kernel_rfl) (by kernel_rfl) (fun _ _ _ h => h) (Or.inl ⟨by rfl, ?_⟩) ?_
      rotate_left
      · (intro w hE; have a0 := cellb a0 hE; have c0 := cellb c0 hE; have c1 := cellb c1 hE; (try dsimp only); go_simp); (try with_reducible rfl)
      try simp only [Act.put, List.setIfInBounds_toArray, List.set_cons_zero, List.set_cons_succ]
      refine wpAnyE_take (i := 10) (oi := { dst := some 23, op := Op.fieldAddr 62 (Operand.tmp 2) 0, type := 0, pos := "ref.go:271", after := #[], guard := none }) (v := ?_) rfl (by kernel_rfl) (by kernel_rfl) (by kernel_rfl) (by kernel_rfl) (fun _ _ _ h => h) (Or.inl ⟨by rfl, ?_⟩) ?_
      rotate_left
      · (intro w hE; have a0 := cellb a0 hE; have c0 := cellb c0 hE; have c1 := cellb c1 hE; (try dsimp only); go_simp); (try with_reducible rfl)
      try simp only [Act.put, List.setIfInBounds_toArray, List.set_cons_zero, List.set_cons_succ]
      refine wpAnyE_take (i := 11) (oi := { dst := some 24, op := Op.load 60 (Operand.tmp 23), type := 60, pos := "ref.go:271", after := #[{ on := 10, ground := Ground.data }], guard := none }) (v := ?_) rfl (by kernel_rfl) (by kernel_rfl) (by kernel_rfl) (by kernel_rfl) (fun _ _ _ h => h) (Or.inl ⟨by rfl, ?_⟩) ?_
      rotate_left
      · (intro w hE; have a0 := cellb a0 hE; have c0 := cellb c0 hE; have c1 := cellb c1 hE; (try dsimp only); go_simp); (try with_reducible rfl)
      try simp only [Act.put, List.setIfInBounds_toArray, List.set_cons_zero, List.set_cons_succ]
      refine wpAnyE_take (i := 12) (oi := { dst := some 25, op := Op.move (Operand.tmp 5), type := 3, pos := "ref.go:271", after := #[], guard := none }) (v := ?_) rfl (by kernel_rfl) (by kernel_rfl) (by kernel_rfl) (by kernel_rfl) (fun _ _ _ h => h) (Or.inl ⟨by rfl, ?_⟩) ?_
      rotate_left
      · (intro w hE; have a0 := cellb a0 hE; have c0 := cellb c0 hE; have c1 := cellb c1 hE; (try dsimp only); go_simp); (try with_reducible rfl)
      try simp only [Act.put, List.setIfInBounds_toArray, List.set_cons_zero, List.set_cons_succ]
      refine wpAnyE_take (i := 13) (oi := { dst := some 26, op := Op.indexAddr 60 (Operand.tmp 24) (Operand.tmp 25), type := 0, pos := "ref.go:271", after := #[{ on := 11, ground := Ground.data }, { on := 12, ground := Ground.data }], guard := none }) (v := ?_) rfl (by kernel_rfl) (by kernel_rfl) (by kernel_rfl) (by kernel_rfl) (fun _ _ _ h => h) (Or.inl ⟨by rfl, ?_⟩) ?_
      rotate_left
      · (intro w hE; have a0 := cellb a0 hE; have c0 := cellb c0 hE; have c1 := cellb c1 hE; (try dsimp only); go_simp); (try with_reducible rfl)
      try simp only [Act.put, List.setIfInBounds_toArray, List.set_cons_zero, List.set_cons_succ]
      refine wpAnyE_take (i := 14) (oi := { dst := some 27, op := Op.fieldAddr 152 (Operand.tmp 26) 1, type := 0, pos := "ref.go:271", after := #[{ on := 13, ground := Ground.data }], guard := none }) (v := ?_) rfl (by kernel_rfl) (by kernel_rfl) (by kernel_rfl) (by kernel_rfl) (fun _ _ _ h => h) (Or.inl ⟨by rfl, ?_⟩) ?_
      rotate_left
      · (intro w hE; have a0 := cellb a0 hE; have c0 := cellb c0 hE; have c1 := cellb c1 hE; (try dsimp only); go_simp); (try with_reducible rfl)
      try simp only [Act.put, List.setIfInBounds_toArray, List.set_cons_zero, List.set_cons_succ]
      refine wpAnyE_take (i := 15) (oi := { dst := some 28, op := Op.load 3 (Operand.tmp 27), type := 3, pos := "ref.go:271", after := #[{ on := 14, ground := Ground.data }], guard := none }) (v := ?_) rfl (by kernel_rfl) (by kernel_rfl) (by kernel_rfl) (by kernel_rfl) (fun _ _ _ h => h) (Or.inl ⟨by rfl, ?_⟩) ?_
      rotate_left
      · (intro w hE; have a0 := cellb a0 hE; have c0 := cellb c0 hE; have c1 := cellb c1 hE; (try dsimp only); go_simp); (try with_reducible rfl)
      try simp only [Act.put, List.setIfInBounds_toArray, List.set_cons_zero, List.set_cons_succ]
      refine wpAnyE_take (i := 16) (oi := { dst := some 29, op := Op.binOp BinOp.eql 3 (Operand.tmp 22) (Operand.tmp 28) 3, type := 4, pos := "ref.go:271", after := #[{ on := 9, ground := Ground.data }, { on := 15, ground := Ground.data }], guard := none }) (v := ?_) rfl (by kernel_rfl) (by kernel_rfl) (by kernel_rfl) (by kernel_rfl) (fun _ _ _ h => h) (Or.inl ⟨by rfl, ?_⟩) ?_
      rotate_left
      · (intro w hE; have a0 := cellb a0 hE; have c0 := cellb c0 hE; have c1 := cellb c1 hE; (try dsimp only); go_simp); (try with_reducible rfl)
      try simp only [Act.put, List.setIfInBounds_toArray, List.set_cons_zero, List.set_cons_succ]
      refine wpAnyE_done (by kernel_rfl) (fun wy1 hE => ?_) _
      have hbz1 := bthen hbz hE
      have a0 := cellb a0 hE
      have c0 := cellb c0 hE
      have c1 := cellb c1 hE
      have i1 := i1.carry hE
      clear hE
      have hB := hbz1
      obtain ⟨W9, hW9⟩ : ∃ v, v = wy1 := ⟨_, rfl⟩
      rw [← hW9] at hB i1 ⊢
      clear hW9 a0 c0 c1
      by_cases hs : M = C
      · have hRe : R = true := by rw [HR.out]; exact List.any_eq_true.2 ⟨(L, C), List.mem_of_getElem? HX.out, by show (wrap64 (hh * L) == C) = true; rw [← HM.out]; simpa using hs⟩
        have HRE := Lib.hid hRe
        clear hRe
        subst hs
        go_wp2
        go_ret
        exact ⟨ret_bool HRE.out.symm, hB⟩
      · have hno := anyX_take_succ (g := fun x => wrap64 (hh * x.1) == x.2) HX.out HF.out (by show (wrap64 (hh * L) == C) = false; rw [← HM.out]; simpa using hs)
        have HNO := Lib.hid hno
        clear hno
        go_wp2
        go_roundw
        case rel => exact ⟨k + 1, by omega, by go_num, HNO.out, i1, hB⟩
        case measure => simp [intOf]; omega
    · obtain rfl : k = n := by omega
      have hRe : R = false := by
        rw [HR.out]
        have h9 := HF.out
        rw [HN.out, List.take_length] at h9
        exact h9
      have HRE := Lib.hid hRe
      clear hRe
      go_wp2
      go_ret
      exact ⟨ret_bool HRE.out.symm, hB⟩
theorem tuned_same {ls : List (Int × Int)} {h : Int} (hf : fltE ls = 0) (hh : 0 ≤ h ∧ h ≤ 13) : tunedR ls h = tunedB ls h := by
  obtain ⟨_, hb⟩ := fltE_zero hf
  unfold tunedR tunedB
  rw [Bool.eq_iff_iff]
  simp only [List.any_eq_true]
  have key : ∀ x ∈ ls, (wrap64 (wrap64 (h * h) * x.1) == x.2) = (leftB x h == 0) := fun x hx => by
    obtain ⟨e1, e2⟩ := left_bd (hb x hx) hh
    obtain ⟨h1, h2⟩ := brE_zero (hb x hx)
    have a1 := mulBd (x := h) (y := h) (A := 13) (B := 13) (by omega) (by omega)
    have a0 : 0 ≤ h * h := Int.mul_nonneg hh.1 hh.1
    rw [e1]
    generalize h * h = q at a1 a0 ⊢
    have b1 := mulBd (x := q) (y := x.1) (A := 169) (B := 50) (by omega) (by omega)
    rw [wrapSm (x := q) (by omega), wrapSm (x := q * x.1) (by omega)]
    generalize q * x.1 = z at b1 ⊢
    by_cases c : z = x.2
    · have : x.2 - z = 0 := by omega
      simp [c]
    · have : ¬ x.2 - z = 0 := by omega
      rw [beq_eq_false_iff_ne.2 c, beq_eq_false_iff_ne.2 this]
  constructor
  · rintro ⟨x, hx, h⟩; exact ⟨x, hx, by rw [← key x hx]; exact h⟩
  · rintro ⟨x, hx, h⟩; exact ⟨x, hx, by rw [key x hx]; exact h⟩

end Go.Proofs.YtfkemdapmoponaaGreatDoor

/- The law's helpers for filters; the reference's checks of filters. (printed by gen/harQd.py) -/
import Derived.Test.YtlohcnecehlljaaGreatDoorHqA
namespace Go.Proofs.YtlohcnecehlljaaGreatDoor
section
set_option linter.unusedSimpArgs false
set_option linter.unusedVariables false
open Go.RowKit

theorem ownsRow_succ2 {w : World} {base e size n : Nat} {v : Value} {xs : List Value} (h : w.ownsRow base e size v (n + 1) xs) : ∃ g cap, v = .slice (some ⟨g, 0, none⟩) (n + 1) cap := by
  rcases h.2 with ⟨_, h2⟩ | ⟨g, cap, cur, hv, _⟩
  · omega
  · exact ⟨g, cap, hv⟩
theorem ownsRow_slice {w : World} {base e size n : Nat} {v : Value} {xs : List Value} (h : w.ownsRow base e size v n xs) : ∃ a cap, v = .slice a n cap := by
  rcases h.2 with ⟨h1, h2⟩ | ⟨g, cap, cur, hv, _⟩
  · exact ⟨none, 0, by rw [h1, h2]⟩
  · exact ⟨_, cap, hv⟩
theorem own_setCell {w : World} {base e size n B j : Nat} {v x : Value} {xs : List Value} (h : w.ownsRow base e size v n xs) (hB : B < base) : (w.setCell ⟨B, j, none⟩ x).ownsRow base e size v n xs := by
  refine ⟨h.1, ?_⟩
  rcases h.2 with h1 | ⟨g, cap, cur, hv, hg, hh, hr⟩
  · exact .inl h1
  · exact .inr ⟨g, cap, cur, hv, hg, (Below.heap_setCell _ _ _ _ (show g ≠ B by omega)).trans hh, hr⟩
theorem flat2_take_succ (ls : List (Int × Int)) (k : Nat) (x : Int × Int) (hk : ls[k]? = some x) : (flat2 (ls.take (k + 1))).map (Value.int .i64) = (flat2 (ls.take k)).map (Value.int .i64) ++ [.int .i64 x.1, .int .i64 x.2] := by
  rw [List.take_add_one, hk, flat2, flat2, List.map_append, List.flatten_append, List.map_append]; simp
theorem Tryz.infoBranchR : (Tryz.prog.info? 141).map (fun i => (i.zero, i.size, i.bytes)) = some (some (.agg #[.int .i64 0, .int .i64 0]), 2, 16) := by kernel_rfl
theorem Tryz.undBranchesR : Tryz.prog.underlying 45 = some (.slice 141) := by kernel_rfl
theorem Tryz.infoFilterR : (Tryz.prog.info? 47).map (·.size) = some 1 := by kernel_rfl


set_option maxRecDepth 100000 in
set_option maxHeartbeats 4000000 in
theorem given_any (v : Value) (ls : List (Int × Int)) (w : World) (hv : Pairs w v ls) (hl : ls.length ≤ 1000000) :
    Calls Tryz.prog 24 #[.agg #[v]] w fun e w' => (∃ u, e = .returned (.agg #[u]) ∧ Pairs w' u ls) ∧ Below w.heap.size w w' := by
  obtain ⟨i0, hi, hz0, hz1, hz2⟩ := info_parts Tryz.infoBranch
  obtain ⟨n, hn⟩ : ∃ n, n = ls.length := ⟨_, rfl⟩
  obtain ⟨a, cp, rfl, _, hcs0⟩ := id hv
  rw [← hn] at hcs0 hl ⊢
  have hcs : ∀ k : Nat, k < n → ∃ b off x, a = some ⟨b, off, none⟩ ∧ ls[k]? = some x ∧ w.cell? ⟨b, off + k * 2, none⟩ = some (.int .i64 x.1) ∧ w.cell? ⟨b, off + k * 2 + 1, none⟩ = some (.int .i64 x.2) := fun k hk => by
    obtain ⟨b, off, rfl, hc⟩ := hcs0 (by omega)
    have e1 := hc k (ls[k]'(by omega)) (List.getElem?_eq_getElem (by omega))
    exact ⟨b, off, _, rfl, List.getElem?_eq_getElem (by omega), e1⟩
  have HC := Lib.hid hcs
  have HN := Lib.hid hn
  clear hv hcs0 hcs hn
  go_enter Tryz.func24, Tryz.ntmps24
  go_upto_region 2 with fail
  obtain ⟨W1, hW1⟩ : ∃ v, v = World.alloc w (Obj.cells #[.slice a n cp] 47) := ⟨_, rfl⟩
  have kW1 : Below w.heap.size w W1 := by rw [hW1]; exact below_new _ _
  have iW1 : Blk W1 (w.heap.size) 47 [.slice a n cp] := by rw [hW1]; exact Blk.new _ _ _
  have sW1 : W1.heap.size = w.heap.size + 1 := by rw [hW1]; simp
  rw [← hW1]
  clear hW1
  obtain ⟨W2, hW2⟩ : ∃ v, v = World.alloc W1 (Obj.cells #[.slice none 0 0] 57) := ⟨_, rfl⟩
  have kW2 : Below W1.heap.size W1 W2 := by rw [hW2]; exact below_new _ _
  have iW2 : Blk W2 (w.heap.size + 1) 57 [.slice none 0 0] := by rw [hW2, ← sW1]; exact Blk.new _ _ _
  have sW2 : W2.heap.size = w.heap.size + 1 + 1 := by rw [hW2]; simp [sW1]
  rw [← hW2]
  clear hW2
  obtain ⟨W3, hW3⟩ : ∃ v, v = World.alloc W2 (Obj.cells #[.slice none 0 0] 57) := ⟨_, rfl⟩
  have kW3 : Below W2.heap.size W2 W3 := by rw [hW3]; exact below_new _ _
  have iW3 : Blk W3 (w.heap.size + 1 + 1) 57 [.slice none 0 0] := by rw [hW3, ← sW2]; exact Blk.new _ _ _
  have sW3 : W3.heap.size = w.heap.size + 1 + 1 + 1 := by rw [hW3]; simp [sW2]
  rw [← hW3]
  clear hW3
  have a0 := ((iW1.carry kW2).carry kW3).cell (j := 0) (v := .slice a n cp) rfl
  have i2 := iW2.carry kW3
  have i3 := iW3
  have hB := bthen kW1 (bthen kW2 kW3)
  have hz : W3.heap.size = w.heap.size + 3 := by omega
  clear iW1 iW2 iW3 kW1 kW2 kW3 sW1 sW2 sW3
  have hB3 : Below W3.heap.size W3 W3 := Below.refl _ _
  have HB := Lib.hid hB
  have HI2 := Lib.hid i2
  go_wp2_with fail
  clear a0 hB i2
  go_loopw [9] (fun i wr => ∃ (k : Nat) (u : Value), k ≤ n ∧ i = .int .i64 k ∧ Blk wr (w.heap.size + 1 + 1) 57 [u] ∧ wr.ownsRow W3.heap.size 142 2 u k ((flat2 (ls.take k)).map (Value.int .i64)) ∧ Blk wr (w.heap.size + 1) 57 [.slice none 0 0] ∧ Below w.heap.size w wr) (fun i _ => n - (intOf i).toNat)
  case atStart => exact ⟨0, _, by omega, rfl, i3, World.ownsRow_nil _ _ _ _, HI2.out, HB.out⟩
  case round =>
    clear i3
    obtain ⟨k, u, hk, rfl, i3, hown, i2, hB⟩ := hrel
    have hsz : W3.heap.size ≤ wr.heap.size := by have := Blk.lt i3; omega
    by_cases hlt : k < n
    · obtain ⟨b, off, x, rfl, hx, c0, c1⟩ := HC.out k hlt
      have c0 := cellb c0 hB
      have c1 := cellb c1 hB
      have hts := flat2_take_succ ls k x hx
      have HTS := Lib.hid hts
      obtain ⟨x0, x1⟩ := x
      simp only at c0 c1
      have d1 : (k : Int) < (n : Int) := by omega
      clear hx hts
      go_upto_region 5 with fail
      obtain ⟨W5, hW5⟩ : ∃ v, v = World.alloc wr (Obj.cells #[.int .i64 x0, .int .i64 x1] 141) := ⟨_, rfl⟩
      have kW5 : Below wr.heap.size wr W5 := by rw [hW5]; exact below_new _ _
      have iW5 : Blk W5 (wr.heap.size) 141 [.int .i64 x0, .int .i64 x1] := by rw [hW5]; exact Blk.new _ _ _
      have sW5 : W5.heap.size = wr.heap.size + 1 := by rw [hW5]; simp
      rw [← hW5]
      clear hW5
      have b0 := iW5.cell (j := 0) (v := .int .i64 x0) rfl
      have b1 := iW5.cell (j := 1) (v := .int .i64 x1) rfl
      replace i3 := i3.carry kW5
      replace i2 := i2.carry kW5
      replace hown := own_below hown kW5
      replace hB := bthen hB kW5
      have hs5 := kW5.size
      have a3 := i3.cell (j := 0) (v := u) rfl
      have f3 := i3.frozen 0
      clear c0 c1 kW5 iW5 sW5
      go_wp2_with (at_builtin; refine wpList_append_own _ rfl _ _ 55 rfl W3.heap.size 142 i0 (.agg #[.int .i64 0, .int .i64 0]) 2 16 Tryz.undBranches hi hz0 hz1 hz2 rfl (by decide) _ _ _ rfl (hown.alloc _) ⟨W5.heap.size, 0, none⟩ 1 1 [.int .i64 x0, .int .i64 x1] rfl rfl (fun j u hj => (Blk.new W5 142 [.int .i64 x0, .int .i64 x1]).news j u hj) (by simp [Value.oneCell']) (by unfold maxLen; omega) (by omega) (by simp; omega) ?_; intro v' w6 hown6 hgrow6 _; obtain ⟨g9, gc9, rfl⟩ := ownsRow_succ2 hown6; have j3 := Blk.own_kept (i3.carry (below_new W5 (.cells #[.int .i64 x0, .int .i64 x1] 142))) (hown.alloc _) (by decide) hgrow6; have j2 := Blk.own_kept (i2.carry (below_new W5 (.cells #[.int .i64 x0, .int .i64 x1] 142))) (hown.alloc _) (by decide) hgrow6; have hB6 := (bthen hB (below_new W5 (.cells #[.int .i64 x0, .int .i64 x1] 142))).grown hgrow6 (by simp; omega) (fun k' hk' => by have := (World.ownsRow.lt hown k' hk').1; omega); have a3 := j3.cell (j := 0) (v := u) rfl; have f3 := j3.frozen 0)
      refine ⟨⟨k + 1, _, by omega, by go_num, j3.set 0 (.slice (some ⟨g9, 0, none⟩) (k + 1) gc9), ?_, j2.other (by omega) _, hB6.setCell (by simp; omega) _⟩, ?_⟩
      · rw [HTS.out]
        exact own_setCell hown6 (by omega)
      · simp [intOf]; omega
    · obtain rfl : k = n := by omega
      obtain ⟨ua, uc, rfl⟩ := ownsRow_slice hown
      have hP2 : Pairs (wr.setCell ⟨w.heap.size + 1, 0, none⟩ (.slice ua k uc)) (.slice ua k uc) ls := by
        have h9 := own_setCell (x := .slice ua k uc) (B := w.heap.size + 1) (j := 0) hown (by omega)
        rw [List.take_of_length_le (by rw [HN.out]; exact Nat.le_refl _)] at h9
        exact Pairs.of_own (l := ls) (base := W3.heap.size) (e := 142) (by rw [← HN.out]; exact h9)
      have a3 := i3.cell (j := 0) (v := .slice ua k uc) rfl
      have a2 := i2.cell (j := 0) (v := .slice none 0 0) rfl
      have f2 := i2.frozen 0
      have hl2 : w.heap.size + 1 < wr.heap.size := Blk.lt i2
      have HP2 := Lib.hid hP2
      clear hown hP2
      go_wp2_with fail
      have i9 := i2.set 0 (.slice ua k uc)
      have z0 := i9.cell (j := 0) (v := .slice ua k uc) rfl
      exact bodyPost_ret (v := .agg #[.slice ua k uc]) (by simp [results, Tryz.f24, go_sem, z0]) rfl ⟨⟨_, rfl, HP2.out⟩, hB.setCell (by simp) _⟩


set_option maxRecDepth 100000 in
set_option maxHeartbeats 4000000 in
theorem told_any (v : Value) (ls : List (Int × Int)) (w : World) (hv : Pairs w v ls) (hl : ls.length ≤ 1000000) :
    Calls Tryz.prog 49 #[.agg #[v]] w fun e w' => (∃ u, e = .returned (.agg #[u]) ∧ Pairs w' u ls) ∧ Below w.heap.size w w' := by
  obtain ⟨i0, hi, hz0, hz1, hz2⟩ := info_parts Tryz.infoBranchR
  obtain ⟨n, hn⟩ : ∃ n, n = ls.length := ⟨_, rfl⟩
  obtain ⟨a, cp, rfl, _, hcs0⟩ := id hv
  rw [← hn] at hcs0 hl ⊢
  have hcs : ∀ k : Nat, k < n → ∃ b off x, a = some ⟨b, off, none⟩ ∧ ls[k]? = some x ∧ w.cell? ⟨b, off + k * 2, none⟩ = some (.int .i64 x.1) ∧ w.cell? ⟨b, off + k * 2 + 1, none⟩ = some (.int .i64 x.2) := fun k hk => by
    obtain ⟨b, off, rfl, hc⟩ := hcs0 (by omega)
    have e1 := hc k (ls[k]'(by omega)) (List.getElem?_eq_getElem (by omega))
    exact ⟨b, off, _, rfl, List.getElem?_eq_getElem (by omega), e1⟩
  have HC := Lib.hid hcs
  have HN := Lib.hid hn
  clear hv hcs0 hcs hn
  go_enter Tryz.func49, Tryz.ntmps49
  go_upto_region 2 with fail
  obtain ⟨W1, hW1⟩ : ∃ v, v = World.alloc w (Obj.cells #[.slice a n cp] 57) := ⟨_, rfl⟩
  have kW1 : Below w.heap.size w W1 := by rw [hW1]; exact below_new _ _
  have iW1 : Blk W1 (w.heap.size) 57 [.slice a n cp] := by rw [hW1]; exact Blk.new _ _ _
  have sW1 : W1.heap.size = w.heap.size + 1 := by rw [hW1]; simp
  rw [← hW1]
  clear hW1
  obtain ⟨W2, hW2⟩ : ∃ v, v = World.alloc W1 (Obj.cells #[.slice none 0 0] 47) := ⟨_, rfl⟩
  have kW2 : Below W1.heap.size W1 W2 := by rw [hW2]; exact below_new _ _
  have iW2 : Blk W2 (w.heap.size + 1) 47 [.slice none 0 0] := by rw [hW2, ← sW1]; exact Blk.new _ _ _
  have sW2 : W2.heap.size = w.heap.size + 1 + 1 := by rw [hW2]; simp [sW1]
  rw [← hW2]
  clear hW2
  obtain ⟨W3, hW3⟩ : ∃ v, v = World.alloc W2 (Obj.cells #[.slice none 0 0] 47) := ⟨_, rfl⟩
  have kW3 : Below W2.heap.size W2 W3 := by rw [hW3]; exact below_new _ _
  have iW3 : Blk W3 (w.heap.size + 1 + 1) 47 [.slice none 0 0] := by rw [hW3, ← sW2]; exact Blk.new _ _ _
  have sW3 : W3.heap.size = w.heap.size + 1 + 1 + 1 := by rw [hW3]; simp [sW2]
  rw [← hW3]
  clear hW3
  have a0 := ((iW1.carry kW2).carry kW3).cell (j := 0) (v := .slice a n cp) rfl
  have i2 := iW2.carry kW3
  have i3 := iW3
  have hB := bthen kW1 (bthen kW2 kW3)
  have hz : W3.heap.size = w.heap.size + 3 := by omega
  clear iW1 iW2 iW3 kW1 kW2 kW3 sW1 sW2 sW3
  have hB3 : Below W3.heap.size W3 W3 := Below.refl _ _
  have HB := Lib.hid hB
  have HI2 := Lib.hid i2
  go_wp2_with fail
  clear a0 hB i2
  go_loopw [9] (fun i wr => ∃ (k : Nat) (u : Value), k ≤ n ∧ i = .int .i64 k ∧ Blk wr (w.heap.size + 1 + 1) 47 [u] ∧ wr.ownsRow W3.heap.size 141 2 u k ((flat2 (ls.take k)).map (Value.int .i64)) ∧ Blk wr (w.heap.size + 1) 47 [.slice none 0 0] ∧ Below w.heap.size w wr) (fun i _ => n - (intOf i).toNat)
  case atStart => exact ⟨0, _, by omega, rfl, i3, World.ownsRow_nil _ _ _ _, HI2.out, HB.out⟩
  case round =>
    clear i3
    obtain ⟨k, u, hk, rfl, i3, hown, i2, hB⟩ := hrel
    have hsz : W3.heap.size ≤ wr.heap.size := by have := Blk.lt i3; omega
    by_cases hlt : k < n
    · obtain ⟨b, off, x, rfl, hx, c0, c1⟩ := HC.out k hlt
      have c0 := cellb c0 hB
      have c1 := cellb c1 hB
      have hts := flat2_take_succ ls k x hx
      have HTS := Lib.hid hts
      obtain ⟨x0, x1⟩ := x
      simp only at c0 c1
      have d1 : (k : Int) < (n : Int) := by omega
      clear hx hts
      go_upto_region 5 with fail
      obtain ⟨W5, hW5⟩ : ∃ v, v = World.alloc wr (Obj.cells #[.int .i64 x0, .int .i64 x1] 142) := ⟨_, rfl⟩
      have kW5 : Below wr.heap.size wr W5 := by rw [hW5]; exact below_new _ _
      have iW5 : Blk W5 (wr.heap.size) 142 [.int .i64 x0, .int .i64 x1] := by rw [hW5]; exact Blk.new _ _ _
      have sW5 : W5.heap.size = wr.heap.size + 1 := by rw [hW5]; simp
      rw [← hW5]
      clear hW5
      have b0 := iW5.cell (j := 0) (v := .int .i64 x0) rfl
      have b1 := iW5.cell (j := 1) (v := .int .i64 x1) rfl
      replace i3 := i3.carry kW5
      replace i2 := i2.carry kW5
      replace hown := own_below hown kW5
      replace hB := bthen hB kW5
      have hs5 := kW5.size
      have a3 := i3.cell (j := 0) (v := u) rfl
      have f3 := i3.frozen 0
      clear c0 c1 kW5 iW5 sW5
      go_wp2_with (at_builtin; refine wpList_append_own _ rfl _ _ 45 rfl W3.heap.size 141 i0 (.agg #[.int .i64 0, .int .i64 0]) 2 16 Tryz.undBranchesR hi hz0 hz1 hz2 rfl (by decide) _ _ _ rfl (hown.alloc _) ⟨W5.heap.size, 0, none⟩ 1 1 [.int .i64 x0, .int .i64 x1] rfl rfl (fun j u hj => (Blk.new W5 141 [.int .i64 x0, .int .i64 x1]).news j u hj) (by simp [Value.oneCell']) (by unfold maxLen; omega) (by omega) (by simp; omega) ?_; intro v' w6 hown6 hgrow6 _; obtain ⟨g9, gc9, rfl⟩ := ownsRow_succ2 hown6; have j3 := Blk.own_kept (i3.carry (below_new W5 (.cells #[.int .i64 x0, .int .i64 x1] 141))) (hown.alloc _) (by decide) hgrow6; have j2 := Blk.own_kept (i2.carry (below_new W5 (.cells #[.int .i64 x0, .int .i64 x1] 141))) (hown.alloc _) (by decide) hgrow6; have hB6 := (bthen hB (below_new W5 (.cells #[.int .i64 x0, .int .i64 x1] 141))).grown hgrow6 (by simp; omega) (fun k' hk' => by have := (World.ownsRow.lt hown k' hk').1; omega); have a3 := j3.cell (j := 0) (v := u) rfl; have f3 := j3.frozen 0)
      refine ⟨⟨k + 1, _, by omega, by go_num, j3.set 0 (.slice (some ⟨g9, 0, none⟩) (k + 1) gc9), ?_, j2.other (by omega) _, hB6.setCell (by simp; omega) _⟩, ?_⟩
      · rw [HTS.out]
        exact own_setCell hown6 (by omega)
      · simp [intOf]; omega
    · obtain rfl : k = n := by omega
      obtain ⟨ua, uc, rfl⟩ := ownsRow_slice hown
      have hP2 : Pairs (wr.setCell ⟨w.heap.size + 1, 0, none⟩ (.slice ua k uc)) (.slice ua k uc) ls := by
        have h9 := own_setCell (x := .slice ua k uc) (B := w.heap.size + 1) (j := 0) hown (by omega)
        rw [List.take_of_length_le (by rw [HN.out]; exact Nat.le_refl _)] at h9
        exact Pairs.of_own (l := ls) (base := W3.heap.size) (e := 141) (by rw [← HN.out]; exact h9)
      have a3 := i3.cell (j := 0) (v := .slice ua k uc) rfl
      have a2 := i2.cell (j := 0) (v := .slice none 0 0) rfl
      have f2 := i2.frozen 0
      have hl2 : w.heap.size + 1 < wr.heap.size := Blk.lt i2
      have HP2 := Lib.hid hP2
      clear hown hP2
      go_wp2_with fail
      have i9 := i2.set 0 (.slice ua k uc)
      have z0 := i9.cell (j := 0) (v := .slice ua k uc) rfl
      exact bodyPost_ret (v := .agg #[.slice ua k uc]) (by simp [results, Tryz.f49, go_sem, z0]) rfl ⟨⟨_, rfl, HP2.out⟩, hB.setCell (by simp) _⟩


theorem ShortR_any (v : Value) (ls : List (Int × Int)) (w : World) (hv : Pairs w v ls) :
    Calls Tryz.prog 21 #[.agg #[v]] w fun e w' => e = .returned (.bool (decide ((ls.length : Int) ≤ 4))) ∧ Below w.heap.size w w' := by
  obtain ⟨a, cp, rfl, _, _⟩ := hv
  go_enter Tryz.func21, Tryz.ntmps21
  go_upto_region 1 with fail
  obtain ⟨W1, hW1⟩ : ∃ v, v = World.alloc w (Obj.cells #[.slice a ls.length cp] 47) := ⟨_, rfl⟩
  have kW1 : Below w.heap.size w W1 := by rw [hW1]; exact below_new _ _
  have iW1 : Blk W1 (w.heap.size) 47 [.slice a ls.length cp] := by rw [hW1]; exact Blk.new _ _ _
  have sW1 : W1.heap.size = w.heap.size + 1 := by rw [hW1]; simp
  rw [← hW1]
  clear hW1
  have a0 := iW1.cell (j := 0) (v := .slice a ls.length cp) rfl
  go_wp2
  go_ret
  exact ⟨rfl, kW1⟩
theorem CheckOrderR_any (h : Int) (w : World) :
    Calls Tryz.prog 32 #[.int .i64 h] w fun r w' => r = .returned (.int .i64 (withinE h 1 12)) ∧ w = w' := by
  go_enter Tryz.func32, Tryz.ntmps32
  go_wp2_with fail
  refine (CheckRange_any _ _ _ _).mono ?_
  rintro e w' ⟨rfl, rfl⟩
  go_wp2_with fail
  go_ret
  exact ⟨rfl, rfl⟩
set_option maxRecDepth 100000 in
set_option maxHeartbeats 4000000 in
theorem CheckFilterR_any (v : Value) (ls : List (Int × Int)) (w : World) (hv : Pairs w v ls) (hl : ls.length ≤ 1000000) :
    Calls Tryz.prog 30 #[.agg #[v]] w fun e w' => e = .returned (.int .i64 (fltE ls)) ∧ Below w.heap.size w w' := by
  obtain ⟨n, hn⟩ : ∃ n, n = ls.length := ⟨_, rfl⟩
  obtain ⟨a, cp, rfl, _, hcs0⟩ := id hv
  obtain ⟨E, hE⟩ : ∃ E, E = fltE ls := ⟨_, rfl⟩
  rw [← hE]
  rw [fltE, fltN] at hE
  rw [← hn] at hcs0 hl hE ⊢
  have hcs : ∀ k : Nat, k < n → ∃ b off x, a = some ⟨b, off, none⟩ ∧ ls[k]? = some x ∧ w.cell? ⟨b, off + k * 2, none⟩ = some (.int .i64 x.1) ∧ w.cell? ⟨b, off + k * 2 + 1, none⟩ = some (.int .i64 x.2) := fun k hk => by
    obtain ⟨b, off, rfl, hc⟩ := hcs0 (by omega)
    have e1 := hc k (ls[k]'(by omega)) (List.getElem?_eq_getElem (by omega))
    exact ⟨b, off, _, rfl, List.getElem?_eq_getElem (by omega), e1⟩
  have HC := Lib.hid hcs
  have HN := Lib.hid hn
  have T1 := Lib.hid (fun W => WhenR_any ((n : Int) == 0) 12 W)
  have T2 := Lib.hid (fun W => WhenR_any (decide ((3 : Int) < n)) 5 W)
  generalize hg1 : whenE ((n : Int) == 0) 12 = e1 at T1 hE
  generalize hg2 : whenE (decide ((3 : Int) < n)) 5 = e2 at T2 hE
  have TF := Lib.hid (fun (u : Value) (W : World) (h : Ints W u [e1, e2]) => FirstR_any u [e1, e2] W (by simp) h)
  generalize firstE [e1, e2] = eN at TF hE
  have HE := Lib.hid hE
  clear hv hcs0 hcs hn hE hg1 hg2
  go_enter Tryz.func30, Tryz.ntmps30
  go_upto_region 1 with fail
  obtain ⟨W1, hW1⟩ : ∃ v, v = World.alloc w (Obj.cells #[.slice a n cp] 47) := ⟨_, rfl⟩
  have kW1 : Below w.heap.size w W1 := by rw [hW1]; exact below_new _ _
  have iW1 : Blk W1 (w.heap.size) 47 [.slice a n cp] := by rw [hW1]; exact Blk.new _ _ _
  have sW1 : W1.heap.size = w.heap.size + 1 := by rw [hW1]; simp
  rw [← hW1]
  clear hW1
  have i1 := iW1
  have a0 := i1.cell (j := 0) (v := .slice a n cp) rfl
  have hB := kW1
  clear iW1 kW1 sW1
  refine wp_region_E 99 (by kernel_rfl) ?_
  obtain ⟨wz, hwz⟩ : ∃ v, v = W1.drew := ⟨_, rfl⟩
  rw [← hwz]
  have hlz : Below W1.heap.size W1 wz := by rw [hwz]; exact (Below.refl _ _).drew
  have hbz := bthen hB hlz
  have a0 := cellb a0 hlz
  have i1 := i1.carry hlz
  clear hwz hlz
  refine wpAnyE_take (i := 0) (oi := { dst := some 7, op := Op.fieldAddr 47 (Operand.tmp 1) 0, type := 0, pos := "ref.go:253", after := #[], guard := none }) (v := ?_) rfl (by kernel_rfl) (by kernel_rfl) (by kernel_rfl) (by kernel_rfl) (fun _ _ _ h => h) (Or.inl ⟨by rfl, ?_⟩) ?_
  rotate_left
  · (intro w hE; have a0 := cellb a0 hE; (try dsimp only); go_simp); (try with_reducible rfl)
  try simp only [Act.put, List.setIfInBounds_toArray, List.set_cons_zero, List.set_cons_succ]
  refine wpAnyE_take (i := 1) (oi := { dst := some 8, op := Op.load 45 (Operand.tmp 7), type := 45, pos := "ref.go:253", after := #[{ on := 0, ground := Ground.data }], guard := none }) (v := ?_) rfl (by kernel_rfl) (by kernel_rfl) (by kernel_rfl) (by kernel_rfl) (fun _ _ _ h => h) (Or.inl ⟨by rfl, ?_⟩) ?_
  rotate_left
  · (intro w hE; have a0 := cellb a0 hE; (try dsimp only); go_simp); (try with_reducible rfl)
  try simp only [Act.put, List.setIfInBounds_toArray, List.set_cons_zero, List.set_cons_succ]
  refine wpAnyE_take (i := 2) (oi := { dst := some 9, op := Op.call { callee := Callee.builtin Builtin.len, args := #[Operand.tmp 8], argTypes := #[45] }, type := 3, pos := "ref.go:253", after := #[{ on := 1, ground := Ground.data }], guard := none }) (v := ?_) rfl (by kernel_rfl) (by kernel_rfl) (by kernel_rfl) (by kernel_rfl) (fun _ _ _ h => h) (Or.inl ⟨by rfl, ?_⟩) ?_
  rotate_left
  · (intro w hE; have a0 := cellb a0 hE; (try dsimp only); go_simp); (try with_reducible rfl)
  try simp only [Act.put, List.setIfInBounds_toArray, List.set_cons_zero, List.set_cons_succ]
  refine wpAnyE_take (i := 3) (oi := { dst := some 10, op := Op.binOp BinOp.eql 3 (Operand.tmp 9) (Operand.const (Value.int IntKind.i64 0)) 3, type := 4, pos := "ref.go:253", after := #[{ on := 2, ground := Ground.data }], guard := none }) (v := ?_) rfl (by kernel_rfl) (by kernel_rfl) (by kernel_rfl) (by kernel_rfl) (fun _ _ _ h => h) (Or.inl ⟨by rfl, ?_⟩) ?_
  rotate_left
  · (intro w hE; have a0 := cellb a0 hE; (try dsimp only); go_simp); (try with_reducible rfl)
  try simp only [Act.put, List.setIfInBounds_toArray, List.set_cons_zero, List.set_cons_succ]
  refine wpAnyE_take (i := 5) (oi := { dst := some 12, op := Op.fieldAddr 47 (Operand.tmp 1) 0, type := 0, pos := "ref.go:253", after := #[], guard := none }) (v := ?_) rfl (by kernel_rfl) (by kernel_rfl) (by kernel_rfl) (by kernel_rfl) (fun _ _ _ h => h) (Or.inl ⟨by rfl, ?_⟩) ?_
  rotate_left
  · (intro w hE; have a0 := cellb a0 hE; (try dsimp only); go_simp); (try with_reducible rfl)
  try simp only [Act.put, List.setIfInBounds_toArray, List.set_cons_zero, List.set_cons_succ]
  refine wpAnyE_take (i := 6) (oi := { dst := some 13, op := Op.load 45 (Operand.tmp 12), type := 45, pos := "ref.go:253", after := #[{ on := 5, ground := Ground.data }], guard := none }) (v := ?_) rfl (by kernel_rfl) (by kernel_rfl) (by kernel_rfl) (by kernel_rfl) (fun _ _ _ h => h) (Or.inl ⟨by rfl, ?_⟩) ?_
  rotate_left
  · (intro w hE; have a0 := cellb a0 hE; (try dsimp only); go_simp); (try with_reducible rfl)
  try simp only [Act.put, List.setIfInBounds_toArray, List.set_cons_zero, List.set_cons_succ]
  refine wpAnyE_take (i := 7) (oi := { dst := some 14, op := Op.call { callee := Callee.builtin Builtin.len, args := #[Operand.tmp 13], argTypes := #[45] }, type := 3, pos := "ref.go:253", after := #[{ on := 6, ground := Ground.data }], guard := none }) (v := ?_) rfl (by kernel_rfl) (by kernel_rfl) (by kernel_rfl) (by kernel_rfl) (fun _ _ _ h => h) (Or.inl ⟨by rfl, ?_⟩) ?_
  rotate_left
  · (intro w hE; have a0 := cellb a0 hE; (try dsimp only); go_simp); (try with_reducible rfl)
  try simp only [Act.put, List.setIfInBounds_toArray, List.set_cons_zero, List.set_cons_succ]
  refine wpAnyE_take (i := 8) (oi := { dst := some 15, op := Op.binOp BinOp.gtr 3 (Operand.tmp 14) (Operand.const (Value.int IntKind.i64 3)) 3, type := 4, pos := "ref.go:253", after := #[{ on := 7, ground := Ground.data }], guard := none }) (v := ?_) rfl (by kernel_rfl) (by kernel_rfl) (by kernel_rfl) (by kernel_rfl) (fun _ _ _ h => h) (Or.inl ⟨by rfl, ?_⟩) ?_
  rotate_left
  · (intro w hE; have a0 := cellb a0 hE; (try dsimp only); go_simp); (try with_reducible rfl)
  try simp only [Act.put, List.setIfInBounds_toArray, List.set_cons_zero, List.set_cons_succ]
  refine wpAnyE_call (i := 4) (oi := { dst := some 11, op := Op.call { callee := Callee.value (Operand.func 33), args := #[Operand.tmp 10, Operand.const (Value.int IntKind.i64 12)], argTypes := #[4, 3] }, type := 3, pos := "ref.go:253", after := #[{ on := 3, ground := Ground.data }], guard := none }) (fun w hE => ofPure (T1.out w)) rfl (by kernel_rfl) (by kernel_rfl) (by kernel_rfl) (by kernel_rfl) (fun _ _ _ h => h) (by rfl) (fun w hE => by (try dsimp only); go_simp) ?_
  try simp only [Act.put, List.setIfInBounds_toArray, List.set_cons_zero, List.set_cons_succ]
  refine wpAnyE_call (i := 9) (oi := { dst := some 16, op := Op.call { callee := Callee.value (Operand.func 33), args := #[Operand.tmp 15, Operand.const (Value.int IntKind.i64 5)], argTypes := #[4, 3] }, type := 3, pos := "ref.go:253", after := #[{ on := 8, ground := Ground.data }, { on := 4, ground := Ground.chain }], guard := none }) (fun w hE => ofPure (T2.out w)) rfl (by kernel_rfl) (by kernel_rfl) (by kernel_rfl) (by kernel_rfl) (fun _ _ _ h => h) (by rfl) (fun w hE => by (try dsimp only); go_simp) ?_
  try simp only [Act.put, List.setIfInBounds_toArray, List.set_cons_zero, List.set_cons_succ]
  refine wpAnyE_one (i := 10) (o := { dst := some 17, op := Op.buildSlice 27 2 #[(0, Operand.tmp 11), (1, Operand.tmp 16)], type := 27, pos := "ref.go:253", after := #[{ on := 4, ground := Ground.data }, { on := 9, ground := Ground.data }], guard := none }) (by kernel_rfl) rfl (fun wy1 hE K hK => ?_)
  have a0 := cellb a0 hE
  have i1 := i1.carry hE
  have hbz1 := bthen hbz hE
  clear hE
  go_simp
  obtain ⟨wx1, hwz⟩ : ∃ v, v = wy1.alloc (Obj.cells #[.int .i64 e1, .int .i64 e2] 3) := ⟨_, rfl⟩
  rw [← hwz]
  have hl : Below wy1.heap.size wy1 wx1 := by rw [hwz]; exact below_new _ _
  have hcz1 := bthen hbz1 hl
  have iN : BlkI wx1 wy1.heap.size 3 [e1, e2] := by rw [hwz]; exact Blk.new _ _ _
  generalize wy1.heap.size = G at iN ⊢
  have a0 := cellb a0 hl
  have i1 := i1.carry hl
  clear hwz
  refine hK _ _ (fun _ => hl) ?_
  clear hK K hl
  try simp only [Act.put, List.setIfInBounds_toArray, List.set_cons_zero, List.set_cons_succ]
  refine wpAnyE_call (i := 11) (oi := { dst := some 18, op := Op.call { callee := Callee.value (Operand.func 76), args := #[Operand.tmp 17], argTypes := #[27] }, type := 3, pos := "ref.go:253", after := #[{ on := 10, ground := Ground.data }, { on := 9, ground := Ground.chain }], guard := none }) (fun w hE => ofPure (TF.out _ w ((BlkI.ints iN rfl).carry hE))) rfl (by kernel_rfl) (by kernel_rfl) (by kernel_rfl) (by kernel_rfl) (fun _ _ _ h => h) (by rfl) (fun w hE => by (try dsimp only); go_simp) ?_
  try simp only [Act.put, List.setIfInBounds_toArray, List.set_cons_zero, List.set_cons_succ]
  refine wpAnyE_take (i := 12) (oi := { dst := some 3, op := Op.assign (Operand.tmp 18), type := 3, pos := "ref.go:253", after := #[{ on := 11, ground := Ground.data }, { on := 11, ground := Ground.chain }, { on := 0, ground := Ground.phase }, { on := 1, ground := Ground.phase }, { on := 2, ground := Ground.phase }, { on := 3, ground := Ground.phase }, { on := 4, ground := Ground.phase }, { on := 5, ground := Ground.phase }, { on := 6, ground := Ground.phase }, { on := 7, ground := Ground.phase }, { on := 8, ground := Ground.phase }, { on := 9, ground := Ground.phase }, { on := 10, ground := Ground.phase }, { on := 11, ground := Ground.phase }], guard := none }) (v := ?_) rfl (by kernel_rfl) (by kernel_rfl) (by kernel_rfl) (by kernel_rfl) (fun _ _ _ h => h) (Or.inl ⟨by rfl, ?_⟩) ?_
  rotate_left
  · (intro w hE; have a0 := cellb a0 hE; (try dsimp only); go_simp); (try with_reducible rfl)
  try simp only [Act.put, List.setIfInBounds_toArray, List.set_cons_zero, List.set_cons_succ]
  refine wpAnyE_done (by kernel_rfl) (fun wy2 hE => ?_) _
  have hbz2 := bthen hcz1 hE
  have a0 := cellb a0 hE
  have i1 := i1.carry hE
  clear hE
  have hB := hbz2
  obtain ⟨W5, hW5⟩ : ∃ v, v = wy2 := ⟨_, rfl⟩
  rw [← hW5] at hB i1 ⊢
  clear hW5 a0
  clear T1 T2 TF
  by_cases he : eN = 0
  · subst he
    have hE := HE.out
    rw [orE, if_pos rfl] at hE
    have HE2 := Lib.hid hE
    clear HE hE
    go_wp2_with fail
    go_loopw [4] (fun i wr => ∃ k : Nat, k ≤ n ∧ i = .int .i64 k ∧ firstE ((ls.map brE).take k) = 0 ∧ Blk wr w.heap.size 47 [.slice a n cp] ∧ Below w.heap.size w wr) (fun i _ => n - (intOf i).toNat)
    case atStart => exact ⟨0, by omega, rfl, rfl, i1, hB⟩
    case round =>
      clear hB i1
      obtain ⟨k, hk, rfl, hf, i1, hB⟩ := hrel
      have a0 := i1.cell (j := 0) (v := .slice a n cp) rfl
      by_cases hlt : k < n
      · obtain ⟨b, off, x, rfl, hx, c0, c1⟩ := HC.out k hlt
        have c0 := cellb c0 hB
        have c1 := cellb c1 hB
        have hlm : k < (ls.map brE).length := by rw [List.length_map, ← HN.out]; exact hlt
        have hs := firstE_take_succ (ls.map brE) k hlm hf
        have hxv : (ls.map brE)[k]?.getD 0 = brE x := by rw [List.getElem?_map, hx]; rfl
        rw [hxv, brE] at hs
        obtain ⟨L, C⟩ := x
        simp only at c0 c1 hs
        have R1 := Lib.hid (fun W => CheckRange_any L 0 50 W)
        have R2 := Lib.hid (fun W => CheckRange_any C 0 2000 W)
        have R3 := Lib.hid (fun W => WhenR_any (L == 0 && C == 0) 6 W)
        generalize hbb : (L == 0 && C == 0) = bb at R3 hs
        generalize withinE L 0 50 = s1 at R1 hs
        generalize withinE C 0 2000 = s2 at R2 hs
        generalize whenE bb 6 = s3 at R3 hs
        have RF := Lib.hid (fun (u : Value) (W : World) (h : Ints W u [s1, s2, s3]) => FirstR_any u [s1, s2, s3] W (by simp) h)
        generalize firstE [s1, s2, s3] = px at RF hs
        have HS := Lib.hid hs
        have HBB := Lib.hid hbb
        have d1 : (k : Int) < n := by omega
        clear hx hf hs hxv hbb
        go_upto_region 8 with fail
        obtain ⟨W6, hW6⟩ : ∃ v, v = World.alloc wr (Obj.cells #[.int .i64 L, .int .i64 C] 141) := ⟨_, rfl⟩
        have kW6 : Below wr.heap.size wr W6 := by rw [hW6]; exact below_new _ _
        have iW6 : Blk W6 (wr.heap.size) 141 [.int .i64 L, .int .i64 C] := by rw [hW6]; exact Blk.new _ _ _
        have sW6 : W6.heap.size = wr.heap.size + 1 := by rw [hW6]; simp
        rw [← hW6]
        clear hW6
        have b0 := iW6.cell (j := 0) (v := .int .i64 L) rfl
        have b1 := iW6.cell (j := 1) (v := .int .i64 C) rfl
        replace i1 := i1.carry kW6
        replace hB := bthen hB kW6
        obtain ⟨B6, hB6⟩ : ∃ B, B = wr.heap.size := ⟨_, rfl⟩
        rw [← hB6] at b0 b1 ⊢
        clear kW6 iW6 sW6 hB6 c0 c1 a0
        go_cut [6] from 34 to 50 (fun u6 wn => u6 = .int .i64 px ∧ Blk wn w.heap.size 47 [.slice (some ⟨b, off, none⟩) n cp] ∧ Below w.heap.size w wn)
        case first =>
          by_cases hL : L = 0
          · subst hL
            obtain rfl : (C == 0) = bb := by rw [← HBB.out]; simp
            clear HBB
            refine wp_region_E 99 (by kernel_rfl) ?_
            obtain ⟨wz, hwz⟩ : ∃ v, v = W6.drew := ⟨_, rfl⟩
            rw [← hwz]
            have hlz : Below W6.heap.size W6 wz := by rw [hwz]; exact (Below.refl _ _).drew
            have hbz := bthen hB hlz
            have b0 := cellb b0 hlz
            have b1 := cellb b1 hlz
            have i1 := i1.carry hlz
            clear hwz hlz
            refine wpAnyE_take (i := 0) (oi := { dst := some 34, op := Op.fieldAddr 141 (Operand.tmp 5) 0, type := 0, pos := "ref.go:258", after := #[], guard := none }) (v := ?_) rfl (by kernel_rfl) (by kernel_rfl) (by kernel_rfl) (by kernel_rfl) (fun _ _ _ h => h) (Or.inl ⟨by rfl, ?_⟩) ?_
            rotate_left
            · (intro w hE; have b0 := cellb b0 hE; have b1 := cellb b1 hE; (try dsimp only); go_simp); (try with_reducible rfl)
            try simp only [Act.put, List.setIfInBounds_toArray, List.set_cons_zero, List.set_cons_succ]
            refine wpAnyE_take (i := 1) (oi := { dst := some 35, op := Op.load 3 (Operand.tmp 34), type := 3, pos := "ref.go:258", after := #[{ on := 0, ground := Ground.data }], guard := none }) (v := ?_) rfl (by kernel_rfl) (by kernel_rfl) (by kernel_rfl) (by kernel_rfl) (fun _ _ _ h => h) (Or.inl ⟨by rfl, ?_⟩) ?_
            rotate_left
            · (intro w hE; have b0 := cellb b0 hE; have b1 := cellb b1 hE; (try dsimp only); go_simp); (try with_reducible rfl)
            try simp only [Act.put, List.setIfInBounds_toArray, List.set_cons_zero, List.set_cons_succ]
            refine wpAnyE_take (i := 3) (oi := { dst := some 37, op := Op.fieldAddr 141 (Operand.tmp 5) 1, type := 0, pos := "ref.go:258", after := #[], guard := none }) (v := ?_) rfl (by kernel_rfl) (by kernel_rfl) (by kernel_rfl) (by kernel_rfl) (fun _ _ _ h => h) (Or.inl ⟨by rfl, ?_⟩) ?_
            rotate_left
            · (intro w hE; have b0 := cellb b0 hE; have b1 := cellb b1 hE; (try dsimp only); go_simp); (try with_reducible rfl)
            try simp only [Act.put, List.setIfInBounds_toArray, List.set_cons_zero, List.set_cons_succ]
            refine wpAnyE_take (i := 4) (oi := { dst := some 38, op := Op.load 3 (Operand.tmp 37), type := 3, pos := "ref.go:258", after := #[{ on := 3, ground := Ground.data }], guard := none }) (v := ?_) rfl (by kernel_rfl) (by kernel_rfl) (by kernel_rfl) (by kernel_rfl) (fun _ _ _ h => h) (Or.inl ⟨by rfl, ?_⟩) ?_
            rotate_left
            · (intro w hE; have b0 := cellb b0 hE; have b1 := cellb b1 hE; (try dsimp only); go_simp); (try with_reducible rfl)
            try simp only [Act.put, List.setIfInBounds_toArray, List.set_cons_zero, List.set_cons_succ]
            refine wpAnyE_take (i := 6) (oi := { dst := some 40, op := Op.fieldAddr 141 (Operand.tmp 5) 0, type := 0, pos := "ref.go:258", after := #[], guard := none }) (v := ?_) rfl (by kernel_rfl) (by kernel_rfl) (by kernel_rfl) (by kernel_rfl) (fun _ _ _ h => h) (Or.inl ⟨by rfl, ?_⟩) ?_
            rotate_left
            · (intro w hE; have b0 := cellb b0 hE; have b1 := cellb b1 hE; (try dsimp only); go_simp); (try with_reducible rfl)
            try simp only [Act.put, List.setIfInBounds_toArray, List.set_cons_zero, List.set_cons_succ]
            refine wpAnyE_take (i := 7) (oi := { dst := some 41, op := Op.load 3 (Operand.tmp 40), type := 3, pos := "ref.go:258", after := #[{ on := 6, ground := Ground.data }], guard := none }) (v := ?_) rfl (by kernel_rfl) (by kernel_rfl) (by kernel_rfl) (by kernel_rfl) (fun _ _ _ h => h) (Or.inl ⟨by rfl, ?_⟩) ?_
            rotate_left
            · (intro w hE; have b0 := cellb b0 hE; have b1 := cellb b1 hE; (try dsimp only); go_simp); (try with_reducible rfl)
            try simp only [Act.put, List.setIfInBounds_toArray, List.set_cons_zero, List.set_cons_succ]
            refine wpAnyE_take (i := 8) (oi := { dst := some 42, op := Op.binOp BinOp.eql 3 (Operand.tmp 41) (Operand.const (Value.int IntKind.i64 0)) 3, type := 4, pos := "ref.go:258", after := #[{ on := 7, ground := Ground.data }], guard := none }) (v := ?_) rfl (by kernel_rfl) (by kernel_rfl) (by kernel_rfl) (by kernel_rfl) (fun _ _ _ h => h) (Or.inl ⟨by rfl, ?_⟩) ?_
            rotate_left
            · (intro w hE; have b0 := cellb b0 hE; have b1 := cellb b1 hE; (try dsimp only); go_simp); (try with_reducible rfl)
            try simp only [Act.put, List.setIfInBounds_toArray, List.set_cons_zero, List.set_cons_succ]
            refine wpAnyE_call (i := 2) (oi := { dst := some 36, op := Op.call { callee := Callee.value (Operand.func 8), args := #[Operand.tmp 35, Operand.const (Value.int IntKind.i64 0), Operand.const (Value.int IntKind.i64 50)], argTypes := #[3, 3, 3] }, type := 3, pos := "ref.go:258", after := #[{ on := 1, ground := Ground.data }], guard := none }) (fun w hE => ofPure (R1.out w)) rfl (by kernel_rfl) (by kernel_rfl) (by kernel_rfl) (by kernel_rfl) (fun _ _ _ h => h) (by rfl) (fun w hE => by (try dsimp only); go_simp) ?_
            try simp only [Act.put, List.setIfInBounds_toArray, List.set_cons_zero, List.set_cons_succ]
            refine wpAnyE_call (i := 5) (oi := { dst := some 39, op := Op.call { callee := Callee.value (Operand.func 8), args := #[Operand.tmp 38, Operand.const (Value.int IntKind.i64 0), Operand.const (Value.int IntKind.i64 2000)], argTypes := #[3, 3, 3] }, type := 3, pos := "ref.go:258", after := #[{ on := 4, ground := Ground.data }, { on := 2, ground := Ground.chain }], guard := none }) (fun w hE => ofPure (R2.out w)) rfl (by kernel_rfl) (by kernel_rfl) (by kernel_rfl) (by kernel_rfl) (fun _ _ _ h => h) (by rfl) (fun w hE => by (try dsimp only); go_simp) ?_
            try simp only [Act.put, List.setIfInBounds_toArray, List.set_cons_zero, List.set_cons_succ]
            refine wpAnyE_take (i := 9) (oi := { dst := some 43, op := Op.move (Operand.tmp 42), type := 4, pos := "ref.go:258", after := #[{ on := 8, ground := Ground.data }, { on := 5, ground := Ground.chain }], guard := none }) (v := ?_) rfl (by kernel_rfl) (by kernel_rfl) (by kernel_rfl) (by kernel_rfl) (fun _ _ _ h => h) (Or.inl ⟨by rfl, ?_⟩) ?_
            rotate_left
            · (intro w hE; have b0 := cellb b0 hE; have b1 := cellb b1 hE; (try dsimp only); go_simp); (try with_reducible rfl)
            try simp only [Act.put, List.setIfInBounds_toArray, List.set_cons_zero, List.set_cons_succ]
            refine wpAnyE_take (i := 10) (oi := { dst := some 44, op := Op.fieldAddr 141 (Operand.tmp 5) 1, type := 0, pos := "ref.go:258", after := #[{ on := 9, ground := Ground.guard }], guard := some (9, true) }) (v := ?_) rfl (by kernel_rfl) (by kernel_rfl) (by kernel_rfl) (by kernel_rfl) (fun _ _ _ h => h) (Or.inl ⟨by rfl, ?_⟩) ?_
            rotate_left
            · (intro w hE; have b0 := cellb b0 hE; have b1 := cellb b1 hE; (try dsimp only); go_simp); (try with_reducible rfl)
            try simp only [Act.put, List.setIfInBounds_toArray, List.set_cons_zero, List.set_cons_succ]
            refine wpAnyE_take (i := 11) (oi := { dst := some 45, op := Op.load 3 (Operand.tmp 44), type := 3, pos := "ref.go:258", after := #[{ on := 10, ground := Ground.data }, { on := 9, ground := Ground.guard }], guard := some (9, true) }) (v := ?_) rfl (by kernel_rfl) (by kernel_rfl) (by kernel_rfl) (by kernel_rfl) (fun _ _ _ h => h) (Or.inl ⟨by rfl, ?_⟩) ?_
            rotate_left
            · (intro w hE; have b0 := cellb b0 hE; have b1 := cellb b1 hE; (try dsimp only); go_simp); (try with_reducible rfl)
            try simp only [Act.put, List.setIfInBounds_toArray, List.set_cons_zero, List.set_cons_succ]
            refine wpAnyE_take (i := 12) (oi := { dst := some 46, op := Op.binOp BinOp.eql 3 (Operand.tmp 45) (Operand.const (Value.int IntKind.i64 0)) 3, type := 4, pos := "ref.go:258", after := #[{ on := 11, ground := Ground.data }, { on := 9, ground := Ground.guard }], guard := some (9, true) }) (v := ?_) rfl (by kernel_rfl) (by kernel_rfl) (by kernel_rfl) (by kernel_rfl) (fun _ _ _ h => h) (Or.inl ⟨by rfl, ?_⟩) ?_
            rotate_left
            · (intro w hE; have b0 := cellb b0 hE; have b1 := cellb b1 hE; (try dsimp only); go_simp); (try with_reducible rfl)
            try simp only [Act.put, List.setIfInBounds_toArray, List.set_cons_zero, List.set_cons_succ]
            refine wpAnyE_take (i := 13) (oi := { dst := some 47, op := Op.pick (Operand.tmp 43) (Operand.tmp 46) (Operand.const (Value.bool false)), type := 4, pos := "ref.go:258", after := #[{ on := 9, ground := Ground.data }, { on := 12, ground := Ground.data }], guard := none }) (v := ?_) rfl (by kernel_rfl) (by kernel_rfl) (by kernel_rfl) (by kernel_rfl) (fun _ _ _ h => h) (Or.inl ⟨by rfl, ?_⟩) ?_
            rotate_left
            · (intro w hE; have b0 := cellb b0 hE; have b1 := cellb b1 hE; (try dsimp only); go_simp); (try with_reducible rfl)
            try simp only [Act.put, List.setIfInBounds_toArray, List.set_cons_zero, List.set_cons_succ]
            refine wpAnyE_call (i := 14) (oi := { dst := some 48, op := Op.call { callee := Callee.value (Operand.func 33), args := #[Operand.tmp 47, Operand.const (Value.int IntKind.i64 6)], argTypes := #[4, 3] }, type := 3, pos := "ref.go:258", after := #[{ on := 13, ground := Ground.data }, { on := 9, ground := Ground.chain }], guard := none }) (fun w hE => ofPure (R3.out w)) rfl (by kernel_rfl) (by kernel_rfl) (by kernel_rfl) (by kernel_rfl) (fun _ _ _ h => h) (by rfl) (fun w hE => by (try dsimp only); go_simp) ?_
            try simp only [Act.put, List.setIfInBounds_toArray, List.set_cons_zero, List.set_cons_succ]
            refine wpAnyE_one (i := 15) (o := { dst := some 49, op := Op.buildSlice 27 3 #[(0, Operand.tmp 36), (1, Operand.tmp 39), (2, Operand.tmp 48)], type := 27, pos := "ref.go:258", after := #[{ on := 2, ground := Ground.data }, { on := 5, ground := Ground.data }, { on := 14, ground := Ground.data }], guard := none }) (by kernel_rfl) rfl (fun wy1 hE K hK => ?_)
            have b0 := cellb b0 hE
            have b1 := cellb b1 hE
            have i1 := i1.carry hE
            have hbz1 := bthen hbz hE
            clear hE
            go_simp
            obtain ⟨wx1, hwz⟩ : ∃ v, v = wy1.alloc (Obj.cells #[.int .i64 s1, .int .i64 s2, .int .i64 s3] 3) := ⟨_, rfl⟩
            rw [← hwz]
            have hl : Below wy1.heap.size wy1 wx1 := by rw [hwz]; exact below_new _ _
            have hcz1 := bthen hbz1 hl
            have iN : BlkI wx1 wy1.heap.size 3 [s1, s2, s3] := by rw [hwz]; exact Blk.new _ _ _
            generalize wy1.heap.size = G at iN ⊢
            have b0 := cellb b0 hl
            have b1 := cellb b1 hl
            have i1 := i1.carry hl
            clear hwz
            refine hK _ _ (fun _ => hl) ?_
            clear hK K hl
            try simp only [Act.put, List.setIfInBounds_toArray, List.set_cons_zero, List.set_cons_succ]
            refine wpAnyE_call (i := 16) (oi := { dst := some 50, op := Op.call { callee := Callee.value (Operand.func 76), args := #[Operand.tmp 49], argTypes := #[27] }, type := 3, pos := "ref.go:258", after := #[{ on := 15, ground := Ground.data }, { on := 14, ground := Ground.chain }], guard := none }) (fun w hE => ofPure (RF.out _ w ((BlkI.ints iN rfl).carry hE))) rfl (by kernel_rfl) (by kernel_rfl) (by kernel_rfl) (by kernel_rfl) (fun _ _ _ h => h) (by rfl) (fun w hE => by (try dsimp only); go_simp) ?_
            try simp only [Act.put, List.setIfInBounds_toArray, List.set_cons_zero, List.set_cons_succ]
            refine wpAnyE_take (i := 17) (oi := { dst := some 6, op := Op.assign (Operand.tmp 50), type := 3, pos := "ref.go:258", after := #[{ on := 16, ground := Ground.data }, { on := 16, ground := Ground.chain }, { on := 0, ground := Ground.phase }, { on := 1, ground := Ground.phase }, { on := 2, ground := Ground.phase }, { on := 3, ground := Ground.phase }, { on := 4, ground := Ground.phase }, { on := 5, ground := Ground.phase }, { on := 6, ground := Ground.phase }, { on := 7, ground := Ground.phase }, { on := 8, ground := Ground.phase }, { on := 9, ground := Ground.phase }, { on := 10, ground := Ground.phase }, { on := 11, ground := Ground.phase }, { on := 12, ground := Ground.phase }, { on := 13, ground := Ground.phase }, { on := 14, ground := Ground.phase }, { on := 15, ground := Ground.phase }, { on := 16, ground := Ground.phase }], guard := none }) (v := ?_) rfl (by kernel_rfl) (by kernel_rfl) (by kernel_rfl) (by kernel_rfl) (fun _ _ _ h => h) (Or.inl ⟨by rfl, ?_⟩) ?_
            rotate_left
            · (intro w hE; have b0 := cellb b0 hE; have b1 := cellb b1 hE; (try dsimp only); go_simp); (try with_reducible rfl)
            try simp only [Act.put, List.setIfInBounds_toArray, List.set_cons_zero, List.set_cons_succ]
            refine wpAnyE_done (by kernel_rfl) (fun wy2 hE => ?_) _
            have hbz2 := bthen hcz1 hE
            have b0 := cellb b0 hE
            have b1 := cellb b1 hE
            have i1 := i1.carry hE
            clear hE
            have hB := hbz2
            go_wp2_with fail
            go_meet
            exact ⟨rfl, i1, hB⟩
          · have hLb : (L == 0) = false := by rw [beq_eq_false_iff_ne]; exact hL
            obtain rfl : bb = false := by rw [← HBB.out, hLb]; rfl
            clear HBB
            refine wp_region_E 99 (by kernel_rfl) ?_
            obtain ⟨wz, hwz⟩ : ∃ v, v = W6.drew := ⟨_, rfl⟩
            rw [← hwz]
            have hlz : Below W6.heap.size W6 wz := by rw [hwz]; exact (Below.refl _ _).drew
            have hbz := bthen hB hlz
            have b0 := cellb b0 hlz
            have b1 := cellb b1 hlz
            have i1 := i1.carry hlz
            clear hwz hlz
            refine wpAnyE_take (i := 0) (oi := { dst := some 34, op := Op.fieldAddr 141 (Operand.tmp 5) 0, type := 0, pos := "ref.go:258", after := #[], guard := none }) (v := ?_) rfl (by kernel_rfl) (by kernel_rfl) (by kernel_rfl) (by kernel_rfl) (fun _ _ _ h => h) (Or.inl ⟨by rfl, ?_⟩) ?_
            rotate_left
            · (intro w hE; have b0 := cellb b0 hE; have b1 := cellb b1 hE; (try dsimp only); go_simp); (try with_reducible rfl)
            try simp only [Act.put, List.setIfInBounds_toArray, List.set_cons_zero, List.set_cons_succ]
            refine wpAnyE_take (i := 1) (oi := { dst := some 35, op := Op.load 3 (Operand.tmp 34), type := 3, pos := "ref.go:258", after := #[{ on := 0, ground := Ground.data }], guard := none }) (v := ?_) rfl (by kernel_rfl) (by kernel_rfl) (by kernel_rfl) (by kernel_rfl) (fun _ _ _ h => h) (Or.inl ⟨by rfl, ?_⟩) ?_
            rotate_left
            · (intro w hE; have b0 := cellb b0 hE; have b1 := cellb b1 hE; (try dsimp only); go_simp); (try with_reducible rfl)
            try simp only [Act.put, List.setIfInBounds_toArray, List.set_cons_zero, List.set_cons_succ]
            refine wpAnyE_take (i := 3) (oi := { dst := some 37, op := Op.fieldAddr 141 (Operand.tmp 5) 1, type := 0, pos := "ref.go:258", after := #[], guard := none }) (v := ?_) rfl (by kernel_rfl) (by kernel_rfl) (by kernel_rfl) (by kernel_rfl) (fun _ _ _ h => h) (Or.inl ⟨by rfl, ?_⟩) ?_
            rotate_left
            · (intro w hE; have b0 := cellb b0 hE; have b1 := cellb b1 hE; (try dsimp only); go_simp); (try with_reducible rfl)
            try simp only [Act.put, List.setIfInBounds_toArray, List.set_cons_zero, List.set_cons_succ]
            refine wpAnyE_take (i := 4) (oi := { dst := some 38, op := Op.load 3 (Operand.tmp 37), type := 3, pos := "ref.go:258", after := #[{ on := 3, ground := Ground.data }], guard := none }) (v := ?_) rfl (by kernel_rfl) (by kernel_rfl) (by kernel_rfl) (by kernel_rfl) (fun _ _ _ h => h) (Or.inl ⟨by rfl, ?_⟩) ?_
            rotate_left
            · (intro w hE; have b0 := cellb b0 hE; have b1 := cellb b1 hE; (try dsimp only); go_simp); (try with_reducible rfl)
            try simp only [Act.put, List.setIfInBounds_toArray, List.set_cons_zero, List.set_cons_succ]
            refine wpAnyE_take (i := 6) (oi := { dst := some 40, op := Op.fieldAddr 141 (Operand.tmp 5) 0, type := 0, pos := "ref.go:258", after := #[], guard := none }) (v := ?_) rfl (by kernel_rfl) (by kernel_rfl) (by kernel_rfl) (by kernel_rfl) (fun _ _ _ h => h) (Or.inl ⟨by rfl, ?_⟩) ?_
            rotate_left
            · (intro w hE; have b0 := cellb b0 hE; have b1 := cellb b1 hE; (try dsimp only); go_simp); (try with_reducible rfl)
            try simp only [Act.put, List.setIfInBounds_toArray, List.set_cons_zero, List.set_cons_succ]
            refine wpAnyE_take (i := 7) (oi := { dst := some 41, op := Op.load 3 (Operand.tmp 40), type := 3, pos := "ref.go:258", after := #[{ on := 6, ground := Ground.data }], guard := none }) (v := ?_) rfl (by kernel_rfl) (by kernel_rfl) (by kernel_rfl) (by kernel_rfl) (fun _ _ _ h => h) (Or.inl ⟨by rfl, ?_⟩) ?_
            rotate_left
            · (intro w hE; have b0 := cellb b0 hE; have b1 := cellb b1 hE; (try dsimp only); go_simp); (try with_reducible rfl)
            try simp only [Act.put, List.setIfInBounds_toArray, List.set_cons_zero, List.set_cons_succ]
            refine wpAnyE_take (i := 8) (oi := { dst := some 42, op := Op.binOp BinOp.eql 3 (Operand.tmp 41) (Operand.const (Value.int IntKind.i64 0)) 3, type := 4, pos := "ref.go:258", after := #[{ on := 7, ground := Ground.data }], guard := none }) (v := ?_) rfl (by kernel_rfl) (by kernel_rfl) (by kernel_rfl) (by kernel_rfl) (fun _ _ _ h => h) (Or.inl ⟨by rfl, ?_⟩) ?_
            rotate_left
            · (intro w hE; have b0 := cellb b0 hE; have b1 := cellb b1 hE; (try dsimp only); go_simp); (try with_reducible rfl)
            try simp only [Act.put, List.setIfInBounds_toArray, List.set_cons_zero, List.set_cons_succ]
            refine wpAnyE_call (i := 2) (oi := { dst := some 36, op := Op.call { callee := Callee.value (Operand.func 8), args := #[Operand.tmp 35, Operand.const (Value.int IntKind.i64 0), Operand.const (Value.int IntKind.i64 50)], argTypes := #[3, 3, 3] }, type := 3, pos := "ref.go:258", after := #[{ on := 1, ground := Ground.data }], guard := none }) (fun w hE => ofPure (R1.out w)) rfl (by kernel_rfl) (by kernel_rfl) (by kernel_rfl) (by kernel_rfl) (fun _ _ _ h => h) (by rfl) (fun w hE => by (try dsimp only); go_simp) ?_
            try simp only [Act.put, List.setIfInBounds_toArray, List.set_cons_zero, List.set_cons_succ]
            refine wpAnyE_call (i := 5) (oi := { dst := some 39, op := Op.call { callee := Callee.value (Operand.func 8), args := #[Operand.tmp 38, Operand.const (Value.int IntKind.i64 0), Operand.const (Value.int IntKind.i64 2000)], argTypes := #[3, 3, 3] }, type := 3, pos := "ref.go:258", after := #[{ on := 4, ground := Ground.data }, { on := 2, ground := Ground.chain }], guard := none }) (fun w hE => ofPure (R2.out w)) rfl (by kernel_rfl) (by kernel_rfl) (by kernel_rfl) (by kernel_rfl) (fun _ _ _ h => h) (by rfl) (fun w hE => by (try dsimp only); go_simp) ?_
            try simp only [Act.put, List.setIfInBounds_toArray, List.set_cons_zero, List.set_cons_succ]
            refine wpAnyE_take (i := 9) (oi := { dst := some 43, op := Op.move (Operand.tmp 42), type := 4, pos := "ref.go:258", after := #[{ on := 8, ground := Ground.data }, { on := 5, ground := Ground.chain }], guard := none }) (v := ?_) rfl (by kernel_rfl) (by kernel_rfl) (by kernel_rfl) (by kernel_rfl) (fun _ _ _ h => h) (Or.inl ⟨by rfl, ?_⟩) ?_
            rotate_left
            · (intro w hE; have b0 := cellb b0 hE; have b1 := cellb b1 hE; (try dsimp only); go_simp); (try with_reducible rfl)
            try simp only [Act.put, List.setIfInBounds_toArray, List.set_cons_zero, List.set_cons_succ]
            refine wpAnyE_take (i := 10) (oi := { dst := some 44, op := Op.fieldAddr 141 (Operand.tmp 5) 1, type := 0, pos := "ref.go:258", after := #[{ on := 9, ground := Ground.guard }], guard := some (9, true) }) (v := undef) rfl (by kernel_rfl) (by kernel_rfl) (by kernel_rfl) (by kernel_rfl) (fun _ _ _ h => h) (Or.inr (Or.inr ⟨by rfl, rfl⟩)) ?_
            try simp only [Act.put, List.setIfInBounds_toArray, List.set_cons_zero, List.set_cons_succ]
            refine wpAnyE_take (i := 11) (oi := { dst := some 45, op := Op.load 3 (Operand.tmp 44), type := 3, pos := "ref.go:258", after := #[{ on := 10, ground := Ground.data }, { on := 9, ground := Ground.guard }], guard := some (9, true) }) (v := undef) rfl (by kernel_rfl) (by kernel_rfl) (by kernel_rfl) (by kernel_rfl) (fun _ _ _ h => h) (Or.inr (Or.inr ⟨by rfl, rfl⟩)) ?_
            try simp only [Act.put, List.setIfInBounds_toArray, List.set_cons_zero, List.set_cons_succ]
            refine wpAnyE_take (i := 12) (oi := { dst := some 46, op := Op.binOp BinOp.eql 3 (Operand.tmp 45) (Operand.const (Value.int IntKind.i64 0)) 3, type := 4, pos := "ref.go:258", after := #[{ on := 11, ground := Ground.data }, { on := 9, ground := Ground.guard }], guard := some (9, true) }) (v := undef) rfl (by kernel_rfl) (by kernel_rfl) (by kernel_rfl) (by kernel_rfl) (fun _ _ _ h => h) (Or.inr (Or.inr ⟨by rfl, rfl⟩)) ?_
            try simp only [Act.put, List.setIfInBounds_toArray, List.set_cons_zero, List.set_cons_succ]
            refine wpAnyE_take (i := 13) (oi := { dst := some 47, op := Op.pick (Operand.tmp 43) (Operand.tmp 46) (Operand.const (Value.bool false)), type := 4, pos := "ref.go:258", after := #[{ on := 9, ground := Ground.data }, { on := 12, ground := Ground.data }], guard := none }) (v := ?_) rfl (by kernel_rfl) (by kernel_rfl) (by kernel_rfl) (by kernel_rfl) (fun _ _ _ h => h) (Or.inl ⟨by rfl, ?_⟩) ?_
            rotate_left
            · (intro w hE; have b0 := cellb b0 hE; have b1 := cellb b1 hE; (try dsimp only); go_simp); (try with_reducible rfl)
            try simp only [Act.put, List.setIfInBounds_toArray, List.set_cons_zero, List.set_cons_succ]
            refine wpAnyE_call (i := 14) (oi := { dst := some 48, op := Op.call { callee := Callee.value (Operand.func 33), args := #[Operand.tmp 47, Operand.const (Value.int IntKind.i64 6)], argTypes := #[4, 3] }, type := 3, pos := "ref.go:258", after := #[{ on := 13, ground := Ground.data }, { on := 9, ground := Ground.chain }], guard := none }) (fun w hE => ofPure (R3.out w)) rfl (by kernel_rfl) (by kernel_rfl) (by kernel_rfl) (by kernel_rfl) (fun _ _ _ h => h) (by rfl) (fun w hE => by (try dsimp only); go_simp) ?_
            try simp only [Act.put, List.setIfInBounds_toArray, List.set_cons_zero, List.set_cons_succ]
            refine wpAnyE_one (i := 15) (o := { dst := some 49, op := Op.buildSlice 27 3 #[(0, Operand.tmp 36), (1, Operand.tmp 39), (2, Operand.tmp 48)], type := 27, pos := "ref.go:258", after := #[{ on := 2, ground := Ground.data }, { on := 5, ground := Ground.data }, { on := 14, ground := Ground.data }], guard := none }) (by kernel_rfl) rfl (fun wy1 hE K hK => ?_)
            have b0 := cellb b0 hE
            have b1 := cellb b1 hE
            have i1 := i1.carry hE
            have hbz1 := bthen hbz hE
            clear hE
            go_simp
            obtain ⟨wx1, hwz⟩ : ∃ v, v = wy1.alloc (Obj.cells #[.int .i64 s1, .int .i64 s2, .int .i64 s3] 3) := ⟨_, rfl⟩
            rw [← hwz]
            have hl : Below wy1.heap.size wy1 wx1 := by rw [hwz]; exact below_new _ _
            have hcz1 := bthen hbz1 hl
            have iN : BlkI wx1 wy1.heap.size 3 [s1, s2, s3] := by rw [hwz]; exact Blk.new _ _ _
            generalize wy1.heap.size = G at iN ⊢
            have b0 := cellb b0 hl
            have b1 := cellb b1 hl
            have i1 := i1.carry hl
            clear hwz
            refine hK _ _ (fun _ => hl) ?_
            clear hK K hl
            try simp only [Act.put, List.setIfInBounds_toArray, List.set_cons_zero, List.set_cons_succ]
            refine wpAnyE_call (i := 16) (oi := { dst := some 50, op := Op.call { callee := Callee.value (Operand.func 76), args := #[Operand.tmp 49], argTypes := #[27] }, type := 3, pos := "ref.go:258", after := #[{ on := 15, ground := Ground.data }, { on := 14, ground := Ground.chain }], guard := none }) (fun w hE => ofPure (RF.out _ w ((BlkI.ints iN rfl).carry hE))) rfl (by kernel_rfl) (by kernel_rfl) (by kernel_rfl) (by kernel_rfl) (fun _ _ _ h => h) (by rfl) (fun w hE => by (try dsimp only); go_simp) ?_
            try simp only [Act.put, List.setIfInBounds_toArray, List.set_cons_zero, List.set_cons_succ]
            refine wpAnyE_take (i := 17) (oi := { dst := some 6, op := Op.assign (Operand.tmp 50), type := 3, pos := "ref.go:258", after := #[{ on := 16, ground := Ground.data }, { on := 16, ground := Ground.chain }, { on := 0, ground := Ground.phase }, { on := 1, ground := Ground.phase }, { on := 2, ground := Ground.phase }, { on := 3, ground := Ground.phase }, { on := 4, ground := Ground.phase }, { on := 5, ground := Ground.phase }, { on := 6, ground := Ground.phase }, { on := 7, ground := Ground.phase }, { on := 8, ground := Ground.phase }, { on := 9, ground := Ground.phase }, { on := 10, ground := Ground.phase }, { on := 11, ground := Ground.phase }, { on := 12, ground := Ground.phase }, { on := 13, ground := Ground.phase }, { on := 14, ground := Ground.phase }, { on := 15, ground := Ground.phase }, { on := 16, ground := Ground.phase }], guard := none }) (v := ?_) rfl (by kernel_rfl) (by kernel_rfl) (by kernel_rfl) (by kernel_rfl) (fun _ _ _ h => h) (Or.inl ⟨by rfl, ?_⟩) ?_
            rotate_left
            · (intro w hE; have b0 := cellb b0 hE; have b1 := cellb b1 hE; (try dsimp only); go_simp); (try with_reducible rfl)
            try simp only [Act.put, List.setIfInBounds_toArray, List.set_cons_zero, List.set_cons_succ]
            refine wpAnyE_done (by kernel_rfl) (fun wy2 hE => ?_) _
            have hbz2 := bthen hcz1 hE
            have b0 := cellb b0 hE
            have b1 := cellb b1 hE
            have i1 := i1.carry hE
            clear hE
            have hB := hbz2
            go_wp2_with fail
            go_meet
            exact ⟨rfl, i1, hB⟩
        case rest =>
          obtain ⟨rfl, i1, hB⟩ := hcut
          by_cases hz : px = 0
          · go_wp2
            go_roundw
            case rel => exact ⟨k + 1, by omega, by go_num, by rw [HS.out]; exact hz, i1, hB⟩
            case measure => simp [intOf]; omega
          · have hE3 : E = px := by
              have h9 := firstE_of_take (ls.map brE) (k + 1) (by rw [HS.out]; exact hz)
              rw [HE2.out, h9, HS.out]
            have HE3 := Lib.hid hE3
            have z : (px == 0) = false := by rw [beq_eq_false_iff_ne]; exact hz
            clear hE3
            go_wp2
            go_ret
            exact ⟨ret_int HE3.out.symm, hB⟩
      · obtain rfl : k = n := by omega
        rw [List.take_of_length_le (by rw [List.length_map, ← HN.out]; exact Nat.le_refl _)] at hf
        have hE3 : E = 0 := by rw [HE2.out]; exact hf
        have HE3 := Lib.hid hE3
        clear hf hE3
        go_wp2
        go_ret
        exact ⟨ret_int HE3.out.symm, hB⟩
  · have z : (eN == 0) = false := by rw [beq_eq_false_iff_ne]; exact he
    have HNE := Lib.hid he
    go_wp2_with fail
    go_ret
    exact ⟨ret_int (by rw [HE.out, orE, if_neg HNE.out]), hB⟩

/-- the reference's way to ask whether a filter is tuned. -/
def tunedR (ls : List (Int × Int)) (h : Int) : Bool := ls.any fun x => wrap64 (wrap64 (h * h) * x.1) == x.2
set_option maxRecDepth 100000 in
set_option maxHeartbeats 2000000 in
theorem IsTunedR_any (v : Value) (ls : List (Int × Int)) (h : Int) (w : World) (hv : Pairs w v ls) (hl : ls.length ≤ 1000000) :
    Calls Tryz.prog 97 #[.agg #[v], .int .i64 h] w fun e w' => e = .returned (.bool (tunedR ls h)) ∧ Below w.heap.size w w' := by
  obtain ⟨n, hn⟩ : ∃ n, n = ls.length := ⟨_, rfl⟩
  obtain ⟨a, cp, rfl, _, hcs0⟩ := id hv
  obtain ⟨R, hR⟩ : ∃ R, R = tunedR ls h := ⟨_, rfl⟩
  rw [← hR]
  rw [tunedR] at hR
  rw [← hn] at hcs0 hl ⊢
  have hcs : ∀ k : Nat, k < n → ∃ b off x, a = some ⟨b, off, none⟩ ∧ ls[k]? = some x ∧ w.cell? ⟨b, off + k * 2, none⟩ = some (.int .i64 x.1) ∧ w.cell? ⟨b, off + k * 2 + 1, none⟩ = some (.int .i64 x.2) := fun k hk => by
    obtain ⟨b, off, rfl, hc⟩ := hcs0 (by omega)
    have e1 := hc k (ls[k]'(by omega)) (List.getElem?_eq_getElem (by omega))
    exact ⟨b, off, _, rfl, List.getElem?_eq_getElem (by omega), e1⟩
  have HC := Lib.hid hcs
  have HN := Lib.hid hn
  have HR := Lib.hid hR
  have hhh : IntKind.i64.wrap (h * h) = wrap64 (h * h) := by rw [wrapEq]
  generalize wrap64 (h * h) = hh at hhh HR
  clear hv hcs0 hcs hn hR
  go_enter Tryz.func97, Tryz.ntmps97
  go_upto_region 1 with fail
  obtain ⟨W1, hW1⟩ : ∃ v, v = World.alloc w (Obj.cells #[.slice a n cp] 47) := ⟨_, rfl⟩
  have kW1 : Below w.heap.size w W1 := by rw [hW1]; exact below_new _ _
  have iW1 : Blk W1 (w.heap.size) 47 [.slice a n cp] := by rw [hW1]; exact Blk.new _ _ _
  have sW1 : W1.heap.size = w.heap.size + 1 := by rw [hW1]; simp
  rw [← hW1]
  clear hW1
  have i1 := iW1
  have hB := kW1
  clear iW1 kW1 sW1
  go_wp2_with fail
  go_loopw [5] (fun i wr => ∃ k : Nat, k ≤ n ∧ i = .int .i64 k ∧ (ls.take k).any (fun x => wrap64 (hh * x.1) == x.2) = false ∧ Blk wr w.heap.size 47 [.slice a n cp] ∧ Below w.heap.size w wr) (fun i _ => n - (intOf i).toNat)
  case atStart => exact ⟨0, by omega, rfl, rfl, i1, hB⟩
  case round =>
    clear hB i1
    obtain ⟨k, hk, rfl, hf, i1, hB⟩ := hrel
    have HF := Lib.hid hf
    clear hf
    have a0 := i1.cell (j := 0) (v := .slice a n cp) rfl
    by_cases hlt : k < n
    · obtain ⟨b, off, x, rfl, hx, c0, c1⟩ := HC.out k hlt
      have c0 := cellb c0 hB
      have c1 := cellb c1 hB
      have HX := Lib.hid hx
      obtain ⟨L, C⟩ := x
      simp only at c0 c1
      have hm : IntKind.i64.wrap (hh * L) = wrap64 (hh * L) := by rw [wrapEq]
      obtain ⟨M, hM⟩ : ∃ M, M = wrap64 (hh * L) := ⟨_, rfl⟩
      rw [← hM] at hm
      have HM := Lib.hid hM
      have d1 : (k : Int) < n := by omega
      clear hx hM
      go_upto_region 4 with fail
      refine wp_region_E 99 (by kernel_rfl) ?_
      obtain ⟨wz, hwz⟩ : ∃ v, v = wr.drew := ⟨_, rfl⟩
      rw [← hwz]
      have hlz : Below wr.heap.size wr wz := by rw [hwz]; exact (Below.refl _ _).drew
      have hbz := bthen hB hlz
      have a0 := cellb a0 hlz
      have c0 := cellb c0 hlz
      have c1 := cellb c1 hlz
      have i1 := i1.carry hlz
      clear hwz hlz
      refine wpAnyE_take (i := 0) (oi := { dst := some 13, op := Op.move (Operand.tmp 1), type := 3, pos := "ref.go:271", after := #[], guard := none }) (v := ?_) rfl (by kernel_rfl) (by kernel_rfl) (by kernel_rfl) (by kernel_rfl) (fun _ _ _ h => h) (Or.inl ⟨by rfl, ?_⟩) ?_
      rotate_left
      · (intro w hE; have a0 := cellb a0 hE; have c0 := cellb c0 hE; have c1 := cellb c1 hE; (try dsimp only); go_simp); (try with_reducible rfl)
      try simp only [Act.put, List.setIfInBounds_toArray, List.set_cons_zero, List.set_cons_succ]
      refine wpAnyE_take (i := 1) (oi := { dst := some 14, op := Op.move (Operand.tmp 1), type := 3, pos := "ref.go:271", after := #[], guard := none }) (v := ?_) rfl (by kernel_rfl) (by kernel_rfl) (by kernel_rfl) (by kernel_rfl) (fun _ _ _ h => h) (Or.inl ⟨by rfl, ?_⟩) ?_
      rotate_left
      · (intro w hE; have a0 := cellb a0 hE; have c0 := cellb c0 hE; have c1 := cellb c1 hE; (try dsimp only); go_simp); (try with_reducible rfl)
      try simp only [Act.put, List.setIfInBounds_toArray, List.set_cons_zero, List.set_cons_succ]
      refine wpAnyE_take (i := 2) (oi := { dst := some 15, op := Op.binOp BinOp.mul 3 (Operand.tmp 13) (Operand.tmp 14) 3, type := 3, pos := "ref.go:271", after := #[{ on := 0, ground := Ground.data }, { on := 1, ground := Ground.data }], guard := none }) (v := ?_) rfl (by kernel_rfl) (by kernel_rfl) (by kernel_rfl) (by kernel_rfl) (fun _ _ _ h => h) (Or.inl ⟨by rfl, ?_⟩) ?_
      rotate_left
      · (intro w hE; have a0 := cellb a0 hE; have c0 := cellb c0 hE; have c1 := cellb c1 hE; (try dsimp only); go_simp); (try with_reducible rfl)
      try simp only [Act.put, List.setIfInBounds_toArray, List.set_cons_zero, List.set_cons_succ]
      refine wpAnyE_take (i := 3) (oi := { dst := some 16, op := Op.fieldAddr 47 (Operand.tmp 2) 0, type := 0, pos := "ref.go:271", after := #[], guard := none }) (v := ?_) rfl (by kernel_rfl) (by kernel_rfl) (by kernel_rfl) (by kernel_rfl) (fun _ _ _ h => h) (Or.inl ⟨by rfl, ?_⟩) ?_
      rotate_left
      · (intro w hE; have a0 := cellb a0 hE; have c0 := cellb c0 hE; have c1 := cellb c1 hE; (try dsimp only); go_simp); (try with_reducible rfl)
      try simp only [Act.put, List.setIfInBounds_toArray, List.set_cons_zero, List.set_cons_succ]
      refine wpAnyE_take (i := 4) (oi := { dst := some 17, op := Op.load 45 (Operand.tmp 16), type := 45, pos := "ref.go:271", after := #[{ on := 3, ground := Ground.data }], guard := none }) (v := ?_) rfl (by kernel_rfl) (by kernel_rfl) (by kernel_rfl) (by kernel_rfl) (fun _ _ _ h => h) (Or.inl ⟨by rfl, ?_⟩) ?_
      rotate_left
      · (intro w hE; have a0 := cellb a0 hE; have c0 := cellb c0 hE; have c1 := cellb c1 hE; (try dsimp only); go_simp); (try with_reducible rfl)
      try simp only [Act.put, List.setIfInBounds_toArray, List.set_cons_zero, List.set_cons_succ]
      refine wpAnyE_take (i := 5) (oi := { dst := some 18, op := Op.move (Operand.tmp 5), type := 3, pos := "ref.go:271", after := #[], guard := none }) (v := ?_) rfl (by kernel_rfl) (by kernel_rfl) (by kernel_rfl) (by kernel_rfl) (fun _ _ _ h => h) (Or.inl ⟨by rfl, ?_⟩) ?_
      rotate_left
      · (intro w hE; have a0 := cellb a0 hE; have c0 := cellb c0 hE; have c1 := cellb c1 hE; (try dsimp only); go_simp); (try with_reducible rfl)
      try simp only [Act.put, List.setIfInBounds_toArray, List.set_cons_zero, List.set_cons_succ]
      refine wpAnyE_take (i := 6) (oi := { dst := some 19, op := Op.indexAddr 45 (Operand.tmp 17) (Operand.tmp 18), type := 0, pos := "ref.go:271", after := #[{ on := 4, ground := Ground.data }, { on := 5, ground := Ground.data }], guard := none }) (v := ?_) rfl (by kernel_rfl) (by kernel_rfl) (by kernel_rfl) (by kernel_rfl) (fun _ _ _ h => h) (Or.inl ⟨by rfl, ?_⟩) ?_
      rotate_left
      · (intro w hE; have a0 := cellb a0 hE; have c0 := cellb c0 hE; have c1 := cellb c1 hE; (try dsimp only); go_simp); (try with_reducible rfl)
      try simp only [Act.put, List.setIfInBounds_toArray, List.set_cons_zero, List.set_cons_succ]
      refine wpAnyE_take (i := 7) (oi := { dst := some 20, op := Op.fieldAddr 141 (Operand.tmp 19) 0, type := 0, pos := "ref.go:271", after := #[{ on := 6, ground := Ground.data }], guard := none }) (v := ?_) rfl (by kernel_rfl) (by kernel_rfl) (by kernel_rfl) (by kernel_rfl) (fun _ _ _ h => h) (Or.inl ⟨by rfl, ?_⟩) ?_
      rotate_left
      · (intro w hE; have a0 := cellb a0 hE; have c0 := cellb c0 hE; have c1 := cellb c1 hE; (try dsimp only); go_simp); (try with_reducible rfl)
      try simp only [Act.put, List.setIfInBounds_toArray, List.set_cons_zero, List.set_cons_succ]
      refine wpAnyE_take (i := 8) (oi := { dst := some 21, op := Op.load 3 (Operand.tmp 20), type := 3, pos := "ref.go:271", after := #[{ on := 7, ground := Ground.data }], guard := none }) (v := ?_) rfl (by kernel_rfl) (by kernel_rfl) (by kernel_rfl) (by kernel_rfl) (fun _ _ _ h => h) (Or.inl ⟨by rfl, ?_⟩) ?_
      rotate_left
      · (intro w hE; have a0 := cellb a0 hE; have c0 := cellb c0 hE; have c1 := cellb c1 hE; (try dsimp only); go_simp); (try with_reducible rfl)
      try simp only [Act.put, List.setIfInBounds_toArray, List.set_cons_zero, List.set_cons_succ]
      refine wpAnyE_take (i := 9) (oi := { dst := some 22, op := Op.binOp BinOp.mul 3 (Operand.tmp 15) (Operand.tmp 21) 3, type := 3, pos := "ref.go:271", after := #[{ on := 2, ground := Ground.data }, { on := 8, ground := Ground.data }], guard := none }) (v := ?_) rfl (by kernel_rfl) (by kernel_rfl) (by kernel_rfl) (by kernel_rfl) (fun _ _ _ h => h) (Or.inl ⟨by rfl, ?_⟩) ?_
      rotate_left
      · (intro w hE; have a0 := cellb a0 hE; have c0 := cellb c0 hE; have c1 := cellb c1 hE; (try dsimp only); go_simp); (try with_reducible rfl)
      try simp only [Act.put, List.setIfInBounds_toArray, List.set_cons_zero, List.set_cons_succ]
      refine wpAnyE_take (i := 10) (oi := { dst := some 23, op := Op.fieldAddr 47 (Operand.tmp 2) 0, type := 0, pos := "ref.go:271", after := #[], guard := none }) (v := ?_) rfl (by kernel_rfl) (by kernel_rfl) (by kernel_rfl) (by kernel_rfl) (fun _ _ _ h => h) (Or.inl ⟨by rfl, ?_⟩) ?_
      rotate_left
      · (intro w hE; have a0 := cellb a0 hE; have c0 := cellb c0 hE; have c1 := cellb c1 hE; (try dsimp only); go_simp); (try with_reducible rfl)
      try simp only [Act.put, List.setIfInBounds_toArray, List.set_cons_zero, List.set_cons_succ]
      refine wpAnyE_take (i := 11) (oi := { dst := some 24, op := Op.load 45 (Operand.tmp 23), type := 45, pos := "ref.go:271", after := #[{ on := 10, ground := Ground.data }], guard := none }) (v := ?_) rfl (by kernel_rfl) (by kernel_rfl) (by kernel_rfl) (by kernel_rfl) (fun _ _ _ h => h) (Or.inl ⟨by rfl, ?_⟩) ?_
      rotate_left
      · (intro w hE; have a0 := cellb a0 hE; have c0 := cellb c0 hE; have c1 := cellb c1 hE; (try dsimp only); go_simp); (try with_reducible rfl)
      try simp only [Act.put, List.setIfInBounds_toArray, List.set_cons_zero, List.set_cons_succ]
      refine wpAnyE_take (i := 12) (oi := { dst := some 25, op := Op.move (Operand.tmp 5), type := 3, pos := "ref.go:271", after := #[], guard := none }) (v := ?_) rfl (by kernel_rfl) (by kernel_rfl) (by kernel_rfl) (by kernel_rfl) (fun _ _ _ h => h) (Or.inl ⟨by rfl, ?_⟩) ?_
      rotate_left
      · (intro w hE; have a0 := cellb a0 hE; have c0 := cellb c0 hE; have c1 := cellb c1 hE; (try dsimp only); go_simp); (try with_reducible rfl)
      try simp only [Act.put, List.setIfInBounds_toArray, List.set_cons_zero, List.set_cons_succ]
      refine wpAnyE_take (i := 13) (oi := { dst := some 26, op := Op.indexAddr 45 (Operand.tmp 24) (Operand.tmp 25), type := 0, pos := "ref.go:271", after := #[{ on := 11, ground := Ground.data }, { on := 12, ground := Ground.data }], guard := none }) (v := ?_) rfl (by kernel_rfl) (by kernel_rfl) (by kernel_rfl) (by kernel_rfl) (fun _ _ _ h => h) (Or.inl ⟨by rfl, ?_⟩) ?_
      rotate_left
      · (intro w hE; have a0 := cellb a0 hE; have c0 := cellb c0 hE; have c1 := cellb c1 hE; (try dsimp only); go_simp); (try with_reducible rfl)
      try simp only [Act.put, List.setIfInBounds_toArray, List.set_cons_zero, List.set_cons_succ]
      refine wpAnyE_take (i := 14) (oi := { dst := some 27, op := Op.fieldAddr 141 (Operand.tmp 26) 1, type := 0, pos := "ref.go:271", after := #[{ on := 13, ground := Ground.data }], guard := none }) (v := ?_) rfl (by kernel_rfl) (by kernel_rfl) (by kernel_rfl) (by kernel_rfl) (fun _ _ _ h => h) (Or.inl ⟨by rfl, ?_⟩) ?_
      rotate_left
      · (intro w hE; have a0 := cellb a0 hE; have c0 := cellb c0 hE; have c1 := cellb c1 hE; (try dsimp only); go_simp); (try with_reducible rfl)
      try simp only [Act.put, List.setIfInBounds_toArray, List.set_cons_zero, List.set_cons_succ]
      refine wpAnyE_take (i := 15) (oi := { dst := some 28, op := Op.load 3 (Operand.tmp 27), type := 3, pos := "ref.go:271", after := #[{ on := 14, ground := Ground.data }], guard := none }) (v := ?_) rfl (by kernel_rfl) (by kernel_rfl) (by kernel_rfl) (by kernel_rfl) (fun _ _ _ h => h) (Or.inl ⟨by rfl, ?_⟩) ?_
      rotate_left
      · (intro w hE; have a0 := cellb a0 hE; have c0 := cellb c0 hE; have c1 := cellb c1 hE; (try dsimp only); go_simp); (try with_reducible rfl)
      try simp only [Act.put, List.setIfInBounds_toArray, List.set_cons_zero, List.set_cons_succ]
      refine wpAnyE_take (i := 16) (oi := { dst := some 29, op := Op.binOp BinOp.eql 3 (Operand.tmp 22) (Operand.tmp 28) 3, type := 4, pos := "ref.go:271", after := #[{ on := 9, ground := Ground.data }, { on := 15, ground := Ground.data }], guard := none }) (v := ?_) rfl (by kernel_rfl) (by kernel_rfl) (by kernel_rfl) (by kernel_rfl) (fun _ _ _ h => h) (Or.inl ⟨by rfl, ?_⟩) ?_
      rotate_left
      · (intro w hE; have a0 := cellb a0 hE; have c0 := cellb c0 hE; have c1 := cellb c1 hE; (try dsimp only); go_simp); (try with_reducible rfl)
      try simp only [Act.put, List.setIfInBounds_toArray, List.set_cons_zero, List.set_cons_succ]
      refine wpAnyE_done (by kernel_rfl) (fun wy1 hE => ?_) _
      have hbz1 := bthen hbz hE
      have a0 := cellb a0 hE
      have c0 := cellb c0 hE
      have c1 := cellb c1 hE
      have i1 := i1.carry hE
      clear hE
      have hB := hbz1
      obtain ⟨W9, hW9⟩ : ∃ v, v = wy1 := ⟨_, rfl⟩
      rw [← hW9] at hB i1 ⊢
      clear hW9 a0 c0 c1
      by_cases hs : M = C
      · have hRe : R = true := by rw [HR.out]; exact List.any_eq_true.2 ⟨(L, C), List.mem_of_getElem? HX.out, by show (wrap64 (hh * L) == C) = true; rw [← HM.out]; simpa using hs⟩
        have HRE := Lib.hid hRe
        clear hRe
        subst hs
        go_wp2
        go_ret
        exact ⟨ret_bool HRE.out.symm, hB⟩
      · have hno := anyX_take_succ (g := fun x => wrap64 (hh * x.1) == x.2) HX.out HF.out (by show (wrap64 (hh * L) == C) = false; rw [← HM.out]; simpa using hs)
        have HNO := Lib.hid hno
        clear hno
        go_wp2
        go_roundw
        case rel => exact ⟨k + 1, by omega, by go_num, HNO.out, i1, hB⟩
        case measure => simp [intOf]; omega
    · obtain rfl : k = n := by omega
      have hRe : R = false := by
        rw [HR.out]
        have h9 := HF.out
        rw [HN.out, List.take_length] at h9
        exact h9
      have HRE := Lib.hid hRe
      clear hRe
      go_wp2
      go_ret
      exact ⟨ret_bool HRE.out.symm, hB⟩
theorem tuned_same {ls : List (Int × Int)} {h : Int} (hf : fltE ls = 0) (hh : 0 ≤ h ∧ h ≤ 13) : tunedR ls h = tunedB ls h := by
  obtain ⟨_, hb⟩ := fltE_zero hf
  unfold tunedR tunedB
  rw [Bool.eq_iff_iff]
  simp only [List.any_eq_true]
  have key : ∀ x ∈ ls, (wrap64 (wrap64 (h * h) * x.1) == x.2) = (leftB x h == 0) := fun x hx => by
    obtain ⟨e1, e2⟩ := left_bd (hb x hx) hh
    obtain ⟨h1, h2⟩ := brE_zero (hb x hx)
    have a1 := mulBd (x := h) (y := h) (A := 13) (B := 13) (by omega) (by omega)
    have a0 : 0 ≤ h * h := Int.mul_nonneg hh.1 hh.1
    rw [e1]
    generalize h * h = q at a1 a0 ⊢
    have b1 := mulBd (x := q) (y := x.1) (A := 169) (B := 50) (by omega) (by omega)
    rw [wrapSm (x := q) (by omega), wrapSm (x := q * x.1) (by omega)]
    generalize q * x.1 = z at b1 ⊢
    by_cases c : z = x.2
    · have : x.2 - z = 0 := by omega
      simp [c]
    · have : ¬ x.2 - z = 0 := by omega
      rw [beq_eq_false_iff_ne.2 c, beq_eq_false_iff_ne.2 this]
  constructor
  · rintro ⟨x, hx, h⟩; exact ⟨x, hx, by rw [← key x hx]; exact h⟩
  · rintro ⟨x, hx, h⟩; exact ⟨x, hx, by rw [key x hx]; exact h⟩
end

section
set_option linter.unusedSimpArgs false
set_option linter.unusedVariables false
open Go.RowKit

def Big (x : Int) : Prop := -1000000000000000 ≤ x ∧ x ≤ 1000000000000000
def gcdI (a b : Int) : Int := ((Nat.gcd a.natAbs b.natAbs : Nat) : Int)
set_option maxHeartbeats 2000000 in
theorem DivisorR_any (a b : Int) (w : World) (ha : Big a) (hb : Big b) :
    Calls Tryz.prog 175 #[.int .i64 a, .int .i64 b] w fun e w' => e = .returned (.int .i64 (gcdI a b)) ∧ Below w.heap.size w w' := by
  obtain ⟨g, hg⟩ : ∃ g : Nat, g = Nat.gcd a.natAbs b.natAbs := ⟨_, rfl⟩
  rw [gcdI, ← hg]
  have HG := Lib.hid hg
  have HAB := Lib.hid (And.intro ha hb)
  clear hg ha hb
  go_enter Tryz.func175, Tryz.ntmps175
  go_wp2_with fail
  go_loopw [0, 1] (fun x y wr => ∃ p q : Int, x = .int .i64 p ∧ y = .int .i64 q ∧ Nat.gcd p.natAbs q.natAbs = g ∧ Big p ∧ Big q ∧ Below w.heap.size w wr) (fun _ y _ => (intOf y).natAbs)
  case atStart => exact ⟨a, b, rfl, rfl, HG.out.symm, HAB.out.1, HAB.out.2, Below.refl _ _⟩
  case round =>
    obtain ⟨p, q, rfl, rfl, hg, hp, hq, hB⟩ := hrel
    unfold Big at hp hq
    by_cases hz : q = 0
    · subst hz
      rw [Int.natAbs_zero, Nat.gcd_zero_right] at hg
      have HG2 := Lib.hid hg
      have e9 : IntKind.i64.wrap (0 - p) = 0 - p := IntWalk.i64_in _ (by omega)
      clear hg
      by_cases hn : p < 0
      · go_wp2
        go_ret
        exact ⟨ret_int (by have := HG2.out; omega), hB⟩
      · go_wp2
        go_ret
        exact ⟨ret_int (by have := HG2.out; omega), hB⟩
    · have HGS := Lib.hid (gcd_step p q _ hg)
      have hm : (p.tmod q).natAbs < q.natAbs := by rw [Int.natAbs_tmod]; exact Nat.mod_lt _ (by omega)
      have HMB := Lib.hid hm
      clear hg hm
      go_upto_region 2 with fail
      refine wp_region_E 99 (by kernel_rfl) ?_
      obtain ⟨wz, hwz⟩ : ∃ v, v = wr.drew := ⟨_, rfl⟩
      rw [← hwz]
      have hlz : Below wr.heap.size wr wz := by rw [hwz]; exact (Below.refl _ _).drew
      have hbz := bthen hB hlz
      clear hwz hlz
      refine wpAnyE_take (i := 0) (oi := { dst := some 7, op := Op.move (Operand.tmp 1), type := 3, pos := "ref.go:127", after := #[], guard := none }) (v := ?_) rfl (by kernel_rfl) (by kernel_rfl) (by kernel_rfl) (by kernel_rfl) (fun _ _ _ h => h) (Or.inl ⟨by rfl, ?_⟩) ?_
      rotate_left
      · (intro w hE; (try dsimp only); go_simp); (try with_reducible rfl)
      try simp only [Act.put, List.setIfInBounds_toArray, List.set_cons_zero, List.set_cons_succ]
      refine wpAnyE_take (i := 1) (oi := { dst := some 8, op := Op.move (Operand.tmp 0), type := 3, pos := "ref.go:127", after := #[], guard := none }) (v := ?_) rfl (by kernel_rfl) (by kernel_rfl) (by kernel_rfl) (by kernel_rfl) (fun _ _ _ h => h) (Or.inl ⟨by rfl, ?_⟩) ?_
      rotate_left
      · (intro w hE; (try dsimp only); go_simp); (try with_reducible rfl)
      try simp only [Act.put, List.setIfInBounds_toArray, List.set_cons_zero, List.set_cons_succ]
      refine wpAnyE_take (i := 2) (oi := { dst := some 9, op := Op.move (Operand.tmp 1), type := 3, pos := "ref.go:127", after := #[], guard := none }) (v := ?_) rfl (by kernel_rfl) (by kernel_rfl) (by kernel_rfl) (by kernel_rfl) (fun _ _ _ h => h) (Or.inl ⟨by rfl, ?_⟩) ?_
      rotate_left
      · (intro w hE; (try dsimp only); go_simp); (try with_reducible rfl)
      try simp only [Act.put, List.setIfInBounds_toArray, List.set_cons_zero, List.set_cons_succ]
      refine wpAnyE_take (i := 3) (oi := { dst := some 10, op := Op.binOp BinOp.rem 3 (Operand.tmp 8) (Operand.tmp 9) 3, type := 3, pos := "ref.go:127", after := #[{ on := 1, ground := Ground.data }, { on := 2, ground := Ground.data }], guard := none }) (v := ?_) rfl (by kernel_rfl) (by kernel_rfl) (by kernel_rfl) (by kernel_rfl) (fun _ _ _ h => h) (Or.inl ⟨by rfl, ?_⟩) ?_
      rotate_left
      · (intro w hE; (try dsimp only); go_simp); (try with_reducible rfl)
      try simp only [Act.put, List.setIfInBounds_toArray, List.set_cons_zero, List.set_cons_succ]
      refine wpAnyE_take (i := 4) (oi := { dst := some 0, op := Op.assign (Operand.tmp 7), type := 3, pos := "ref.go:127", after := #[{ on := 0, ground := Ground.data }, { on := 0, ground := Ground.phase }, { on := 1, ground := Ground.phase }, { on := 2, ground := Ground.textOnly Departure.lateStores }, { on := 3, ground := Ground.textOnly Departure.lateStoresUnsure }], guard := none }) (v := ?_) rfl (by kernel_rfl) (by kernel_rfl) (by kernel_rfl) (by kernel_rfl) (fun _ _ _ h => h) (Or.inl ⟨by rfl, ?_⟩) ?_
      rotate_left
      · (intro w hE; (try dsimp only); go_simp); (try with_reducible rfl)
      try simp only [Act.put, List.setIfInBounds_toArray, List.set_cons_zero, List.set_cons_succ]
      refine wpAnyE_take (i := 5) (oi := { dst := some 1, op := Op.assign (Operand.tmp 10), type := 3, pos := "ref.go:127", after := #[{ on := 3, ground := Ground.data }, { on := 4, ground := Ground.chain }, { on := 0, ground := Ground.phase }, { on := 1, ground := Ground.phase }, { on := 2, ground := Ground.phase }, { on := 3, ground := Ground.phase }, { on := 4, ground := Ground.phase }], guard := none }) (v := ?_) rfl (by kernel_rfl) (by kernel_rfl) (by kernel_rfl) (by kernel_rfl) (fun _ _ _ h => h) (Or.inl ⟨by rfl, ?_⟩) ?_
      rotate_left
      · (intro w hE; (try dsimp only); go_simp); (try with_reducible rfl)
      try simp only [Act.put, List.setIfInBounds_toArray, List.set_cons_zero, List.set_cons_succ]
      refine wpAnyE_done (by kernel_rfl) (fun wy1 hE => ?_) _
      have hbz1 := bthen hbz hE
      clear hE
      have hB := hbz1
      obtain ⟨W4, hW4⟩ : ∃ v, v = wy1 := ⟨_, rfl⟩
      rw [← hW4] at hB ⊢
      clear hW4
      go_wp2
      go_roundw
      case rel => exact ⟨q, p.tmod q, rfl, rfl, HGS.out, hq, by have := HMB.out; unfold Big; omega, hB⟩
      case measure => have := HMB.out; simp only [intOf]; exact this

theorem lowQ_pos {n d : Int} (hd : 0 < d) : lowQ n d = (n.tdiv (gcdI n d), d.tdiv (gcdI n d)) := by
  unfold lowQ lowA gcdI
  rw [if_neg (by omega)]
theorem lowQ_neg {n d : Int} (hd : d < 0) : lowQ n d = ((-n).tdiv (gcdI (-n) (-d)), (-d).tdiv (gcdI (-n) (-d))) := by
  unfold lowQ lowA gcdI
  rw [if_pos hd, Int.natAbs_neg, Int.natAbs_neg, Int.tdiv_neg, Int.tdiv_neg, Int.neg_tdiv, Int.neg_tdiv]
theorem gcd_pos {n d : Int} (hd : d ≠ 0) : 0 < gcdI n d := by
  unfold gcdI
  have : 0 < Nat.gcd n.natAbs d.natAbs := Nat.gcd_pos_of_pos_right _ (by omega)
  omega
theorem tdiv_small {x g : Int} (hx : Big x) : IntKind.i64.wrap (x.tdiv g) = x.tdiv g := by
  have h2 : (x.tdiv g).natAbs ≤ x.natAbs := by rw [Int.natAbs_tdiv]; exact Nat.div_le_self _ _
  unfold Big at hx
  generalize x.tdiv g = z at h2 ⊢
  exact IntWalk.i64_in _ (by omega)
set_option maxRecDepth 100000 in
set_option maxHeartbeats 2000000 in
theorem LowestR_any (n d : Int) (w : World) (hn : Big n) (hd : Big d) (hd0 : d ≠ 0) :
    Calls Tryz.prog 148 #[.int .i64 n, .int .i64 d] w fun e w' => e = .returned (.agg #[.int .i64 (lowQ n d).1, .int .i64 (lowQ n d).2]) ∧ Below w.heap.size w w' := by
  have h1 := fun h : d < 0 => lowQ_neg (n := n) h
  have h2 := fun h : 0 < d => lowQ_pos (n := n) h
  obtain ⟨r, hr0⟩ : ∃ r, r = lowQ n d := ⟨_, rfl⟩
  rw [← hr0] at h1 h2 ⊢
  clear hr0
  by_cases hneg : d < 0
  · have hr := h1 hneg
    obtain ⟨p, hpe⟩ : ∃ p, p = -n := ⟨_, rfl⟩
    obtain ⟨q, hqe⟩ : ∃ q, q = -d := ⟨_, rfl⟩
    have en : IntKind.i64.wrap (-n) = p := by rw [hpe]; exact IntWalk.i64_in _ (by unfold Big at hn; omega)
    have ed : IntKind.i64.wrap (-d) = q := by rw [hqe]; exact IntWalk.i64_in _ (by unfold Big at hd; omega)
    have hp : Big p := by unfold Big at *; omega
    have hq : Big q := by unfold Big at *; omega
    have hq0 : q ≠ 0 := by omega
    rw [← hpe, ← hqe] at hr
    clear h1 h2 hn hd hd0 hpe hqe
    have TD := Lib.hid (fun W => DivisorR_any p q W hp hq)
    have hA0 : gcdI p q ≠ 0 := by have := gcd_pos (n := p) hq0; omega
    have q1 : IntKind.i64.wrap (p.tdiv (gcdI p q)) = p.tdiv (gcdI p q) := tdiv_small hp
    have q2 : IntKind.i64.wrap (q.tdiv (gcdI p q)) = q.tdiv (gcdI p q) := tdiv_small hq
    have HR := Lib.hid hr
    clear hr hp hq
    generalize gcdI p q = g at TD hA0 q1 q2 HR
    generalize hq3 : p.tdiv g = Q1 at q1 HR
    generalize hq4 : q.tdiv g = Q2 at q2 HR
    go_enter Tryz.func148, Tryz.ntmps148
    go_upto_region 1 with fail
    obtain ⟨W1, hW1⟩ : ∃ v, v = World.alloc w (Obj.cells #[.int .i64 0, .int .i64 0] 118) := ⟨_, rfl⟩
    have kW1 : Below w.heap.size w W1 := by rw [hW1]; exact below_new _ _
    have iW1 : BlkI W1 (w.heap.size) 118 (List.replicate 2 0) := by rw [hW1]; exact BlkI.new w 118 (List.replicate 2 0)
    have sW1 : W1.heap.size = w.heap.size + 1 := by rw [hW1]; simp
    rw [← hW1]
    clear hW1
    have i4 : BlkI W1 w.heap.size 118 [0, 0] := iW1
    have hB := kW1
    clear iW1 kW1 sW1
    go_wp2_with fail
    refine (TD.out W1).mono ?_
    rintro e W2 ⟨rfl, hb⟩
    replace i4 := i4.carry hb
    replace hB := bthen hB hb
    clear hb
    go_upto_region 4 with fail
    refine wp_region_E 7 (by kernel_rfl) ?_
    obtain ⟨wz, hwz⟩ : ∃ v, v = W2.drew := ⟨_, rfl⟩
    rw [← hwz]
    have hlz : Below W2.heap.size W2 wz := by rw [hwz]; exact (Below.refl _ _).drew
    have hbz := bthen hB hlz
    have i4 := i4.carry hlz
    clear hwz hlz
    refine wpAnyE_take (i := 0) (oi := { dst := some 15, op := Op.move (Operand.tmp 0), type := 3, pos := "ref.go:141", after := #[], guard := none }) (v := ?_) rfl (by kernel_rfl) (by kernel_rfl) (by kernel_rfl) (by kernel_rfl) (fun _ _ _ h => h) (Or.inl ⟨by rfl, ?_⟩) ?_
    rotate_left
    · (intro w hE; (try dsimp only); go_simp); (try with_reducible rfl)
    try simp only [Act.put, List.setIfInBounds_toArray, List.set_cons_zero, List.set_cons_succ]
    refine wpAnyE_take (i := 1) (oi := { dst := some 16, op := Op.move (Operand.tmp 5), type := 3, pos := "ref.go:141", after := #[], guard := none }) (v := ?_) rfl (by kernel_rfl) (by kernel_rfl) (by kernel_rfl) (by kernel_rfl) (fun _ _ _ h => h) (Or.inl ⟨by rfl, ?_⟩) ?_
    rotate_left
    · (intro w hE; (try dsimp only); go_simp); (try with_reducible rfl)
    try simp only [Act.put, List.setIfInBounds_toArray, List.set_cons_zero, List.set_cons_succ]
    refine wpAnyE_take (i := 2) (oi := { dst := some 17, op := Op.binOp BinOp.quo 3 (Operand.tmp 15) (Operand.tmp 16) 3, type := 3, pos := "ref.go:141", after := #[{ on := 0, ground := Ground.data }, { on := 1, ground := Ground.data }], guard := none }) (v := ?_) rfl (by kernel_rfl) (by kernel_rfl) (by kernel_rfl) (by kernel_rfl) (fun _ _ _ h => h) (Or.inl ⟨by rfl, ?_⟩) ?_
    rotate_left
    · (intro w hE; (try dsimp only); go_simp); (try with_reducible rfl)
    try simp only [Act.put, List.setIfInBounds_toArray, List.set_cons_zero, List.set_cons_succ]
    refine wpAnyE_take (i := 3) (oi := { dst := some 18, op := Op.move (Operand.tmp 1), type := 3, pos := "ref.go:141", after := #[], guard := none }) (v := ?_) rfl (by kernel_rfl) (by kernel_rfl) (by kernel_rfl) (by kernel_rfl) (fun _ _ _ h => h) (Or.inl ⟨by rfl, ?_⟩) ?_
    rotate_left
    · (intro w hE; (try dsimp only); go_simp); (try with_reducible rfl)
    try simp only [Act.put, List.setIfInBounds_toArray, List.set_cons_zero, List.set_cons_succ]
    refine wpAnyE_take (i := 4) (oi := { dst := some 19, op := Op.move (Operand.tmp 5), type := 3, pos := "ref.go:141", after := #[], guard := none }) (v := ?_) rfl (by kernel_rfl) (by kernel_rfl) (by kernel_rfl) (by kernel_rfl) (fun _ _ _ h => h) (Or.inl ⟨by rfl, ?_⟩) ?_
    rotate_left
    · (intro w hE; (try dsimp only); go_simp); (try with_reducible rfl)
    try simp only [Act.put, List.setIfInBounds_toArray, List.set_cons_zero, List.set_cons_succ]
    refine wpAnyE_take (i := 5) (oi := { dst := some 20, op := Op.binOp BinOp.quo 3 (Operand.tmp 18) (Operand.tmp 19) 3, type := 3, pos := "ref.go:141", after := #[{ on := 3, ground := Ground.data }, { on := 4, ground := Ground.data }], guard := none }) (v := ?_) rfl (by kernel_rfl) (by kernel_rfl) (by kernel_rfl) (by kernel_rfl) (fun _ _ _ h => h) (Or.inl ⟨by rfl, ?_⟩) ?_
    rotate_left
    · (intro w hE; (try dsimp only); go_simp); (try with_reducible rfl)
    try simp only [Act.put, List.setIfInBounds_toArray, List.set_cons_zero, List.set_cons_succ]
    refine wpAnyE_take (i := 6) (oi := { dst := some 21, op := Op.build 118 #[(0, Operand.tmp 17), (1, Operand.tmp 20)], type := 118, pos := "ref.go:141", after := #[{ on := 2, ground := Ground.data }, { on := 5, ground := Ground.data }], guard := none }) (v := ?_) rfl (by kernel_rfl) (by kernel_rfl) (by kernel_rfl) (by kernel_rfl) (fun _ _ _ h => h) (Or.inl ⟨by rfl, ?_⟩) ?_
    rotate_left
    · (intro w hE; (try dsimp only); go_simp); (try with_reducible rfl)
    try simp only [Act.put, List.setIfInBounds_toArray, List.set_cons_zero, List.set_cons_succ]
    refine wpAnyE_one (i := 7) (o := { dst := none, op := Op.store 118 (Operand.tmp 4) (Operand.tmp 21), type := 0, pos := "ref.go:141", after := #[{ on := 6, ground := Ground.data }, { on := 0, ground := Ground.phase }, { on := 1, ground := Ground.phase }, { on := 2, ground := Ground.phase }, { on := 3, ground := Ground.phase }, { on := 4, ground := Ground.phase }, { on := 5, ground := Ground.phase }, { on := 6, ground := Ground.phase }], guard := none }) (by kernel_rfl) rfl (fun wy1 hE K hK => ?_)
    have i4 := i4.carry hE
    have hbz1 := bthen hbz hE
    clear hE
    rw [if_pos (by rfl)]
    refine wp_storeA _ _ _ rfl w.heap.size [Q1, Q2] [0, 0] rfl rfl i4 rfl Tryz.infoRatio ?_
    obtain ⟨wx1, hwz⟩ : ∃ v, v = World.setRow wy1 w.heap.size (ia [Q1, Q2]) := ⟨_, rfl⟩
    rw [← hwz]
    have hcz1 : Below w.heap.size w wx1 := by rw [hwz]; exact below_rowA hbz1 (Nat.le_refl _) _
    replace i4 := BlkI.setRowA i4 [Q1, Q2]
    rw [← hwz] at i4
    clear hwz
    refine hK _ _ (fun h => absurd rfl h) ?_
    clear hK K
    try simp only [Act.put, List.setIfInBounds_toArray, List.set_cons_zero, List.set_cons_succ]
    refine wpAnyE_done (by kernel_rfl) (fun wy2 hE => ?_) _
    have hbz2 := bthen hcz1 hE
    have i4 := i4.carry hE
    clear hE
    have hB := hbz2
    obtain ⟨W4, hW4⟩ : ∃ v, v = wy2 := ⟨_, rfl⟩
    rw [← hW4] at hB i4 ⊢
    clear hW4
    go_wp2_with fail
    have z0 : W4.cell? ⟨w.heap.size, 0, none⟩ = some (.int .i64 Q1) := BlkI.cell i4 (j := 0) (by simp)
    have z1 : W4.cell? ⟨w.heap.size, 1, none⟩ = some (.int .i64 Q2) := BlkI.cell i4 (j := 1) (by simp)
    exact bodyPost_ret (v := .agg #[.int .i64 Q1, .int .i64 Q2]) (by simp [results, Tryz.f148, go_sem, z0, z1]) rfl ⟨by rw [HR.out], hB⟩
  · have hr := h2 (by omega)
    have hq0 := hd0
    have hp := hn
    have hq := hd
    clear h1 h2 hn hd hd0
    obtain ⟨p, hpn⟩ : ∃ p, p = n := ⟨_, rfl⟩
    obtain ⟨q, hqd⟩ : ∃ q, q = d := ⟨_, rfl⟩
    subst hpn hqd
    have TD := Lib.hid (fun W => DivisorR_any p q W hp hq)
    have hA0 : gcdI p q ≠ 0 := by have := gcd_pos (n := p) hq0; omega
    have q1 : IntKind.i64.wrap (p.tdiv (gcdI p q)) = p.tdiv (gcdI p q) := tdiv_small hp
    have q2 : IntKind.i64.wrap (q.tdiv (gcdI p q)) = q.tdiv (gcdI p q) := tdiv_small hq
    have HR := Lib.hid hr
    clear hr hp hq
    generalize gcdI p q = g at TD hA0 q1 q2 HR
    generalize hq3 : p.tdiv g = Q1 at q1 HR
    generalize hq4 : q.tdiv g = Q2 at q2 HR
    go_enter Tryz.func148, Tryz.ntmps148
    go_upto_region 1 with fail
    obtain ⟨W1, hW1⟩ : ∃ v, v = World.alloc w (Obj.cells #[.int .i64 0, .int .i64 0] 118) := ⟨_, rfl⟩
    have kW1 : Below w.heap.size w W1 := by rw [hW1]; exact below_new _ _
    have iW1 : BlkI W1 (w.heap.size) 118 (List.replicate 2 0) := by rw [hW1]; exact BlkI.new w 118 (List.replicate 2 0)
    have sW1 : W1.heap.size = w.heap.size + 1 := by rw [hW1]; simp
    rw [← hW1]
    clear hW1
    have i4 : BlkI W1 w.heap.size 118 [0, 0] := iW1
    have hB := kW1
    clear iW1 kW1 sW1
    go_wp2_with fail
    refine (TD.out W1).mono ?_
    rintro e W2 ⟨rfl, hb⟩
    replace i4 := i4.carry hb
    replace hB := bthen hB hb
    clear hb
    go_upto_region 4 with fail
    refine wp_region_E 7 (by kernel_rfl) ?_
    obtain ⟨wz, hwz⟩ : ∃ v, v = W2.drew := ⟨_, rfl⟩
    rw [← hwz]
    have hlz : Below W2.heap.size W2 wz := by rw [hwz]; exact (Below.refl _ _).drew
    have hbz := bthen hB hlz
    have i4 := i4.carry hlz
    clear hwz hlz
    refine wpAnyE_take (i := 0) (oi := { dst := some 15, op := Op.move (Operand.tmp 0), type := 3, pos := "ref.go:141", after := #[], guard := none }) (v := ?_) rfl (by kernel_rfl) (by kernel_rfl) (by kernel_rfl) (by kernel_rfl) (fun _ _ _ h => h) (Or.inl ⟨by rfl, ?_⟩) ?_
    rotate_left
    · (intro w hE; (try dsimp only); go_simp); (try with_reducible rfl)
    try simp only [Act.put, List.setIfInBounds_toArray, List.set_cons_zero, List.set_cons_succ]
    refine wpAnyE_take (i := 1) (oi := { dst := some 16, op := Op.move (Operand.tmp 5), type := 3, pos := "ref.go:141", after := #[], guard := none }) (v := ?_) rfl (by kernel_rfl) (by kernel_rfl) (by kernel_rfl) (by kernel_rfl) (fun _ _ _ h => h) (Or.inl ⟨by rfl, ?_⟩) ?_
    rotate_left
    · (intro w hE; (try dsimp only); go_simp); (try with_reducible rfl)
    try simp only [Act.put, List.setIfInBounds_toArray, List.set_cons_zero, List.set_cons_succ]
    refine wpAnyE_take (i := 2) (oi := { dst := some 17, op := Op.binOp BinOp.quo 3 (Operand.tmp 15) (Operand.tmp 16) 3, type := 3, pos := "ref.go:141", after := #[{ on := 0, ground := Ground.data }, { on := 1, ground := Ground.data }], guard := none }) (v := ?_) rfl (by kernel_rfl) (by kernel_rfl) (by kernel_rfl) (by kernel_rfl) (fun _ _ _ h => h) (Or.inl ⟨by rfl, ?_⟩) ?_
    rotate_left
    · (intro w hE; (try dsimp only); go_simp); (try with_reducible rfl)
    try simp only [Act.put, List.setIfInBounds_toArray, List.set_cons_zero, List.set_cons_succ]
    refine wpAnyE_take (i := 3) (oi := { dst := some 18, op := Op.move (Operand.tmp 1), type := 3, pos := "ref.go:141", after := #[], guard := none }) (v := ?_) rfl (by kernel_rfl) (by kernel_rfl) (by kernel_rfl) (by kernel_rfl) (fun _ _ _ h => h) (Or.inl ⟨by rfl, ?_⟩) ?_
    rotate_left
    · (intro w hE; (try dsimp only); go_simp); (try with_reducible rfl)
    try simp only [Act.put, List.setIfInBounds_toArray, List.set_cons_zero, List.set_cons_succ]
    refine wpAnyE_take (i := 4) (oi := { dst := some 19, op := Op.move (Operand.tmp 5), type := 3, pos := "ref.go:141", after := #[], guard := none }) (v := ?_) rfl (by kernel_rfl) (by kernel_rfl) (by kernel_rfl) (by kernel_rfl) (fun _ _ _ h => h) (Or.inl ⟨by rfl, ?_⟩) ?_
    rotate_left
    · (intro w hE; (try dsimp only); go_simp); (try with_reducible rfl)
    try simp only [Act.put, List.setIfInBounds_toArray, List.set_cons_zero, List.set_cons_succ]
    refine wpAnyE_take (i := 5) (oi := { dst := some 20, op := Op.binOp BinOp.quo 3 (Operand.tmp 18) (Operand.tmp 19) 3, type := 3, pos := "ref.go:141", after := #[{ on := 3, ground := Ground.data }, { on := 4, ground := Ground.data }], guard := none }) (v := ?_) rfl (by kernel_rfl) (by kernel_rfl) (by kernel_rfl) (by kernel_rfl) (fun _ _ _ h => h) (Or.inl ⟨by rfl, ?_⟩) ?_
    rotate_left
    · (intro w hE; (try dsimp only); go_simp); (try with_reducible rfl)
    try simp only [Act.put, List.setIfInBounds_toArray, List.set_cons_zero, List.set_cons_succ]
    refine wpAnyE_take (i := 6) (oi := { dst := some 21, op := Op.build 118 #[(0, Operand.tmp 17), (1, Operand.tmp 20)], type := 118, pos := "ref.go:141", after := #[{ on := 2, ground := Ground.data }, { on := 5, ground := Ground.data }], guard := none }) (v := ?_) rfl (by kernel_rfl) (by kernel_rfl) (by kernel_rfl) (by kernel_rfl) (fun _ _ _ h => h) (Or.inl ⟨by rfl, ?_⟩) ?_
    rotate_left
    · (intro w hE; (try dsimp only); go_simp); (try with_reducible rfl)
    try simp only [Act.put, List.setIfInBounds_toArray, List.set_cons_zero, List.set_cons_succ]
    refine wpAnyE_one (i := 7) (o := { dst := none, op := Op.store 118 (Operand.tmp 4) (Operand.tmp 21), type := 0, pos := "ref.go:141", after := #[{ on := 6, ground := Ground.data }, { on := 0, ground := Ground.phase }, { on := 1, ground := Ground.phase }, { on := 2, ground := Ground.phase }, { on := 3, ground := Ground.phase }, { on := 4, ground := Ground.phase }, { on := 5, ground := Ground.phase }, { on := 6, ground := Ground.phase }], guard := none }) (by kernel_rfl) rfl (fun wy1 hE K hK => ?_)
    have i4 := i4.carry hE
    have hbz1 := bthen hbz hE
    clear hE
    rw [if_pos (by rfl)]
    refine wp_storeA _ _ _ rfl w.heap.size [Q1, Q2] [0, 0] rfl rfl i4 rfl Tryz.infoRatio ?_
    obtain ⟨wx1, hwz⟩ : ∃ v, v = World.setRow wy1 w.heap.size (ia [Q1, Q2]) := ⟨_, rfl⟩
    rw [← hwz]
    have hcz1 : Below w.heap.size w wx1 := by rw [hwz]; exact below_rowA hbz1 (Nat.le_refl _) _
    replace i4 := BlkI.setRowA i4 [Q1, Q2]
    rw [← hwz] at i4
    clear hwz
    refine hK _ _ (fun h => absurd rfl h) ?_
    clear hK K
    try simp only [Act.put, List.setIfInBounds_toArray, List.set_cons_zero, List.set_cons_succ]
    refine wpAnyE_done (by kernel_rfl) (fun wy2 hE => ?_) _
    have hbz2 := bthen hcz1 hE
    have i4 := i4.carry hE
    clear hE
    have hB := hbz2
    obtain ⟨W4, hW4⟩ : ∃ v, v = wy2 := ⟨_, rfl⟩
    rw [← hW4] at hB i4 ⊢
    clear hW4
    go_wp2_with fail
    have z0 : W4.cell? ⟨w.heap.size, 0, none⟩ = some (.int .i64 Q1) := BlkI.cell i4 (j := 0) (by simp)
    have z1 : W4.cell? ⟨w.heap.size, 1, none⟩ = some (.int .i64 Q2) := BlkI.cell i4 (j := 1) (by simp)
    exact bodyPost_ret (v := .agg #[.int .i64 Q1, .int .i64 Q2]) (by simp [results, Tryz.f148, go_sem, z0, z1]) rfl ⟨by rw [HR.out], hB⟩

theorem sus_big {ls : List (Int × Int)} {h : Int} (hS : SusOk ls h) : Big (susL ls h).1 ∧ Big (susL ls h).2 ∧ (susL ls h).2 ≠ 0 := hS
set_option maxRecDepth 100000 in
set_option maxHeartbeats 4000000 in
theorem SusceptanceR_any (v : Value) (ls : List (Int × Int)) (h : Int) (w : World) (hv : Pairs w v ls) (hl : ls.length ≤ 1000000) (hS : SusOk ls h) :
    Calls Tryz.prog 99 #[.agg #[v], .int .i64 h] w fun e w' => e = .returned (.agg #[.int .i64 (susR ls h).1, .int .i64 (susR ls h).2]) ∧ Below w.heap.size w w' := by
  obtain ⟨n, hn⟩ : ∃ n, n = ls.length := ⟨_, rfl⟩
  obtain ⟨a, cp, rfl, _, hcs0⟩ := id hv
  have TL := Lib.hid (fun W => LowestR_any (susL ls h).1 (susL ls h).2 W (sus_big hS).1 (sus_big hS).2.1 (sus_big hS).2.2)
  have hr : susR ls h = lowQ (susL ls h).1 (susL ls h).2 := rfl
  rw [← hr] at TL
  generalize susR ls h = r at TL ⊢
  rw [← hn] at hcs0 hl ⊢
  have hcs : ∀ k : Nat, k < n → ∃ b off x, a = some ⟨b, off, none⟩ ∧ ls[k]? = some x ∧ w.cell? ⟨b, off + k * 2, none⟩ = some (.int .i64 x.1) ∧ w.cell? ⟨b, off + k * 2 + 1, none⟩ = some (.int .i64 x.2) := fun k hk => by
    obtain ⟨b, off, rfl, hc⟩ := hcs0 (by omega)
    have e1 := hc k (ls[k]'(by omega)) (List.getElem?_eq_getElem (by omega))
    exact ⟨b, off, _, rfl, List.getElem?_eq_getElem (by omega), e1⟩
  have HC := Lib.hid hcs
  have HN := Lib.hid hn
  clear hv hcs0 hcs hn hr hS
  go_enter Tryz.func99, Tryz.ntmps99
  go_upto_region 1 with fail
  obtain ⟨W1, hW1⟩ : ∃ v, v = World.alloc w (Obj.cells #[.slice a n cp] 47) := ⟨_, rfl⟩
  have kW1 : Below w.heap.size w W1 := by rw [hW1]; exact below_new _ _
  have iW1 : Blk W1 (w.heap.size) 47 [.slice a n cp] := by rw [hW1]; exact Blk.new _ _ _
  have sW1 : W1.heap.size = w.heap.size + 1 := by rw [hW1]; simp
  rw [← hW1]
  clear hW1
  obtain ⟨W2, hW2⟩ : ∃ v, v = World.alloc W1 (Obj.cells #[.int .i64 0, .int .i64 0] 118) := ⟨_, rfl⟩
  have kW2 : Below W1.heap.size W1 W2 := by rw [hW2]; exact below_new _ _
  have iW2 : BlkI W2 (w.heap.size + 1) 118 (List.replicate 2 0) := by rw [hW2, ← sW1]; exact BlkI.new W1 118 (List.replicate 2 0)
  have sW2 : W2.heap.size = w.heap.size + 1 + 1 := by rw [hW2]; simp [sW1]
  rw [← hW2]
  clear hW2
  have i1 := iW1.carry kW2
  have i4 : BlkI W2 (w.heap.size + 1) 118 [0, 0] := iW2
  have hB := bthen kW1 kW2
  clear iW1 iW2 kW1 kW2 sW1 sW2
  go_wp2_with fail
  go_loopw [5, 6, 7] (fun p q i wr => ∃ k : Nat, k ≤ n ∧ i = .int .i64 k ∧ p = .int .i64 (susL (ls.take k) h).1 ∧ q = .int .i64 (susL (ls.take k) h).2 ∧ Blk wr w.heap.size 47 [.slice a n cp] ∧ BlkI wr (w.heap.size + 1) 118 [0, 0] ∧ Below w.heap.size w wr) (fun _ _ i _ => n - (intOf i).toNat)
  case atStart => exact ⟨0, by omega, rfl, rfl, rfl, i1, i4, hB⟩
  case round =>
    clear i4 hB i1
    obtain ⟨k, hk, rfl, rfl, rfl, i1, i4, hB⟩ := hrel
    have a0 := i1.cell (j := 0) (v := .slice a n cp) rfl
    by_cases hlt : k < n
    · obtain ⟨b, off, x, rfl, hx, c0, c1⟩ := HC.out k hlt
      have c0 := cellb c0 hB
      have c1 := cellb c1 hB
      have hts := susL_take ls h k x hx
      obtain ⟨p, hp⟩ : ∃ p, p = susL (ls.take k) h := ⟨_, rfl⟩
      rw [← hp] at hts ⊢
      clear hp
      obtain ⟨p1, p2⟩ := p
      rw [susT] at hts
      have hlf : leftB x h = wrap64 (x.2 - wrap64 (wrap64 (h * h) * x.1)) := rfl
      generalize leftB x h = lf at hts hlf
      obtain ⟨L, C⟩ := x
      simp only at c0 c1 hts hlf ⊢
      have HT := Lib.hid hts
      have HLF := Lib.hid hlf
      have d1 : (k : Int) < n := by omega
      clear hx hts hlf
      go_upto_region 5 with fail
      refine wp_region_E 99 (by kernel_rfl) ?_
      obtain ⟨wz, hwz⟩ : ∃ v, v = wr.drew := ⟨_, rfl⟩
      rw [← hwz]
      have hlz : Below wr.heap.size wr wz := by rw [hwz]; exact (Below.refl _ _).drew
      have hbz := bthen hB hlz
      have a0 := cellb a0 hlz
      have c0 := cellb c0 hlz
      have c1 := cellb c1 hlz
      have i1 := i1.carry hlz
      have i4 := i4.carry hlz
      clear hwz hlz
      refine wpAnyE_take (i := 0) (oi := { dst := some 16, op := Op.fieldAddr 47 (Operand.tmp 2) 0, type := 0, pos := "ref.go:282", after := #[], guard := none }) (v := ?_) rfl (by kernel_rfl) (by kernel_rfl) (by kernel_rfl) (by kernel_rfl) (fun _ _ _ h => h) (Or.inl ⟨by rfl, ?_⟩) ?_
      rotate_left
      · (intro w hE; have a0 := cellb a0 hE; have c0 := cellb c0 hE; have c1 := cellb c1 hE; (try dsimp only); go_simp); (try with_reducible rfl)
      try simp only [Act.put, List.setIfInBounds_toArray, List.set_cons_zero, List.set_cons_succ]
      refine wpAnyE_take (i := 1) (oi := { dst := some 17, op := Op.load 45 (Operand.tmp 16), type := 45, pos := "ref.go:282", after := #[{ on := 0, ground := Ground.data }], guard := none }) (v := ?_) rfl (by kernel_rfl) (by kernel_rfl) (by kernel_rfl) (by kernel_rfl) (fun _ _ _ h => h) (Or.inl ⟨by rfl, ?_⟩) ?_
      rotate_left
      · (intro w hE; have a0 := cellb a0 hE; have c0 := cellb c0 hE; have c1 := cellb c1 hE; (try dsimp only); go_simp); (try with_reducible rfl)
      try simp only [Act.put, List.setIfInBounds_toArray, List.set_cons_zero, List.set_cons_succ]
      refine wpAnyE_take (i := 2) (oi := { dst := some 18, op := Op.move (Operand.tmp 7), type := 3, pos := "ref.go:282", after := #[], guard := none }) (v := ?_) rfl (by kernel_rfl) (by kernel_rfl) (by kernel_rfl) (by kernel_rfl) (fun _ _ _ h => h) (Or.inl ⟨by rfl, ?_⟩) ?_
      rotate_left
      · (intro w hE; have a0 := cellb a0 hE; have c0 := cellb c0 hE; have c1 := cellb c1 hE; (try dsimp only); go_simp); (try with_reducible rfl)
      try simp only [Act.put, List.setIfInBounds_toArray, List.set_cons_zero, List.set_cons_succ]
      refine wpAnyE_take (i := 3) (oi := { dst := some 19, op := Op.indexAddr 45 (Operand.tmp 17) (Operand.tmp 18), type := 0, pos := "ref.go:282", after := #[{ on := 1, ground := Ground.data }, { on := 2, ground := Ground.data }], guard := none }) (v := ?_) rfl (by kernel_rfl) (by kernel_rfl) (by kernel_rfl) (by kernel_rfl) (fun _ _ _ h => h) (Or.inl ⟨by rfl, ?_⟩) ?_
      rotate_left
      · (intro w hE; have a0 := cellb a0 hE; have c0 := cellb c0 hE; have c1 := cellb c1 hE; (try dsimp only); go_simp); (try with_reducible rfl)
      try simp only [Act.put, List.setIfInBounds_toArray, List.set_cons_zero, List.set_cons_succ]
      refine wpAnyE_take (i := 4) (oi := { dst := some 20, op := Op.fieldAddr 141 (Operand.tmp 19) 1, type := 0, pos := "ref.go:282", after := #[{ on := 3, ground := Ground.data }], guard := none }) (v := ?_) rfl (by kernel_rfl) (by kernel_rfl) (by kernel_rfl) (by kernel_rfl) (fun _ _ _ h => h) (Or.inl ⟨by rfl, ?_⟩) ?_
      rotate_left
      · (intro w hE; have a0 := cellb a0 hE; have c0 := cellb c0 hE; have c1 := cellb c1 hE; (try dsimp only); go_simp); (try with_reducible rfl)
      try simp only [Act.put, List.setIfInBounds_toArray, List.set_cons_zero, List.set_cons_succ]
      refine wpAnyE_take (i := 5) (oi := { dst := some 21, op := Op.load 3 (Operand.tmp 20), type := 3, pos := "ref.go:282", after := #[{ on := 4, ground := Ground.data }], guard := none }) (v := ?_) rfl (by kernel_rfl) (by kernel_rfl) (by kernel_rfl) (by kernel_rfl) (fun _ _ _ h => h) (Or.inl ⟨by rfl, ?_⟩) ?_
      rotate_left
      · (intro w hE; have a0 := cellb a0 hE; have c0 := cellb c0 hE; have c1 := cellb c1 hE; (try dsimp only); go_simp); (try with_reducible rfl)
      try simp only [Act.put, List.setIfInBounds_toArray, List.set_cons_zero, List.set_cons_succ]
      refine wpAnyE_take (i := 6) (oi := { dst := some 22, op := Op.move (Operand.tmp 1), type := 3, pos := "ref.go:282", after := #[], guard := none }) (v := ?_) rfl (by kernel_rfl) (by kernel_rfl) (by kernel_rfl) (by kernel_rfl) (fun _ _ _ h => h) (Or.inl ⟨by rfl, ?_⟩) ?_
      rotate_left
      · (intro w hE; have a0 := cellb a0 hE; have c0 := cellb c0 hE; have c1 := cellb c1 hE; (try dsimp only); go_simp); (try with_reducible rfl)
      try simp only [Act.put, List.setIfInBounds_toArray, List.set_cons_zero, List.set_cons_succ]
      refine wpAnyE_take (i := 7) (oi := { dst := some 23, op := Op.move (Operand.tmp 1), type := 3, pos := "ref.go:282", after := #[], guard := none }) (v := ?_) rfl (by kernel_rfl) (by kernel_rfl) (by kernel_rfl) (by kernel_rfl) (fun _ _ _ h => h) (Or.inl ⟨by rfl, ?_⟩) ?_
      rotate_left
      · (intro w hE; have a0 := cellb a0 hE; have c0 := cellb c0 hE; have c1 := cellb c1 hE; (try dsimp only); go_simp); (try with_reducible rfl)
      try simp only [Act.put, List.setIfInBounds_toArray, List.set_cons_zero, List.set_cons_succ]
      refine wpAnyE_take (i := 8) (oi := { dst := some 24, op := Op.binOp BinOp.mul 3 (Operand.tmp 22) (Operand.tmp 23) 3, type := 3, pos := "ref.go:282", after := #[{ on := 6, ground := Ground.data }, { on := 7, ground := Ground.data }], guard := none }) (v := ?_) rfl (by kernel_rfl) (by kernel_rfl) (by kernel_rfl) (by kernel_rfl) (fun _ _ _ h => h) (Or.inl ⟨by rfl, ?_⟩) ?_
      rotate_left
      · (intro w hE; have a0 := cellb a0 hE; have c0 := cellb c0 hE; have c1 := cellb c1 hE; (try dsimp only); go_simp); (try with_reducible rfl)
      try simp only [Act.put, List.setIfInBounds_toArray, List.set_cons_zero, List.set_cons_succ]
      refine wpAnyE_take (i := 9) (oi := { dst := some 25, op := Op.fieldAddr 47 (Operand.tmp 2) 0, type := 0, pos := "ref.go:282", after := #[], guard := none }) (v := ?_) rfl (by kernel_rfl) (by kernel_rfl) (by kernel_rfl) (by kernel_rfl) (fun _ _ _ h => h) (Or.inl ⟨by rfl, ?_⟩) ?_
      rotate_left
      · (intro w hE; have a0 := cellb a0 hE; have c0 := cellb c0 hE; have c1 := cellb c1 hE; (try dsimp only); go_simp); (try with_reducible rfl)
      try simp only [Act.put, List.setIfInBounds_toArray, List.set_cons_zero, List.set_cons_succ]
      refine wpAnyE_take (i := 10) (oi := { dst := some 26, op := Op.load 45 (Operand.tmp 25), type := 45, pos := "ref.go:282", after := #[{ on := 9, ground := Ground.data }], guard := none }) (v := ?_) rfl (by kernel_rfl) (by kernel_rfl) (by kernel_rfl) (by kernel_rfl) (fun _ _ _ h => h) (Or.inl ⟨by rfl, ?_⟩) ?_
      rotate_left
      · (intro w hE; have a0 := cellb a0 hE; have c0 := cellb c0 hE; have c1 := cellb c1 hE; (try dsimp only); go_simp); (try with_reducible rfl)
      try simp only [Act.put, List.setIfInBounds_toArray, List.set_cons_zero, List.set_cons_succ]
      refine wpAnyE_take (i := 11) (oi := { dst := some 27, op := Op.move (Operand.tmp 7), type := 3, pos := "ref.go:282", after := #[], guard := none }) (v := ?_) rfl (by kernel_rfl) (by kernel_rfl) (by kernel_rfl) (by kernel_rfl) (fun _ _ _ h => h) (Or.inl ⟨by rfl, ?_⟩) ?_
      rotate_left
      · (intro w hE; have a0 := cellb a0 hE; have c0 := cellb c0 hE; have c1 := cellb c1 hE; (try dsimp only); go_simp); (try with_reducible rfl)
      try simp only [Act.put, List.setIfInBounds_toArray, List.set_cons_zero, List.set_cons_succ]
      refine wpAnyE_take (i := 12) (oi := { dst := some 28, op := Op.indexAddr 45 (Operand.tmp 26) (Operand.tmp 27), type := 0, pos := "ref.go:282", after := #[{ on := 10, ground := Ground.data }, { on := 11, ground := Ground.data }], guard := none }) (v := ?_) rfl (by kernel_rfl) (by kernel_rfl) (by kernel_rfl) (by kernel_rfl) (fun _ _ _ h => h) (Or.inl ⟨by rfl, ?_⟩) ?_
      rotate_left
      · (intro w hE; have a0 := cellb a0 hE; have c0 := cellb c0 hE; have c1 := cellb c1 hE; (try dsimp only); go_simp); (try with_reducible rfl)
      try simp only [Act.put, List.setIfInBounds_toArray, List.set_cons_zero, List.set_cons_succ]
      refine wpAnyE_take (i := 13) (oi := { dst := some 29, op := Op.fieldAddr 141 (Operand.tmp 28) 0, type := 0, pos := "ref.go:282", after := #[{ on := 12, ground := Ground.data }], guard := none }) (v := ?_) rfl (by kernel_rfl) (by kernel_rfl) (by kernel_rfl) (by kernel_rfl) (fun _ _ _ h => h) (Or.inl ⟨by rfl, ?_⟩) ?_
      rotate_left
      · (intro w hE; have a0 := cellb a0 hE; have c0 := cellb c0 hE; have c1 := cellb c1 hE; (try dsimp only); go_simp); (try with_reducible rfl)
      try simp only [Act.put, List.setIfInBounds_toArray, List.set_cons_zero, List.set_cons_succ]
      refine wpAnyE_take (i := 14) (oi := { dst := some 30, op := Op.load 3 (Operand.tmp 29), type := 3, pos := "ref.go:282", after := #[{ on := 13, ground := Ground.data }], guard := none }) (v := ?_) rfl (by kernel_rfl) (by kernel_rfl) (by kernel_rfl) (by kernel_rfl) (fun _ _ _ h => h) (Or.inl ⟨by rfl, ?_⟩) ?_
      rotate_left
      · (intro w hE; have a0 := cellb a0 hE; have c0 := cellb c0 hE; have c1 := cellb c1 hE; (try dsimp only); go_simp); (try with_reducible rfl)
      try simp only [Act.put, List.setIfInBounds_toArray, List.set_cons_zero, List.set_cons_succ]
      refine wpAnyE_take (i := 15) (oi := { dst := some 31, op := Op.binOp BinOp.mul 3 (Operand.tmp 24) (Operand.tmp 30) 3, type := 3, pos := "ref.go:282", after := #[{ on := 8, ground := Ground.data }, { on := 14, ground := Ground.data }], guard := none }) (v := ?_) rfl (by kernel_rfl) (by kernel_rfl) (by kernel_rfl) (by kernel_rfl) (fun _ _ _ h => h) (Or.inl ⟨by rfl, ?_⟩) ?_
      rotate_left
      · (intro w hE; have a0 := cellb a0 hE; have c0 := cellb c0 hE; have c1 := cellb c1 hE; (try dsimp only); go_simp); (try with_reducible rfl)
      try simp only [Act.put, List.setIfInBounds_toArray, List.set_cons_zero, List.set_cons_succ]
      refine wpAnyE_take (i := 16) (oi := { dst := some 32, op := Op.binOp BinOp.sub 3 (Operand.tmp 21) (Operand.tmp 31) 3, type := 3, pos := "ref.go:282", after := #[{ on := 5, ground := Ground.data }, { on := 15, ground := Ground.data }], guard := none }) (v := ?_) rfl (by kernel_rfl) (by kernel_rfl) (by kernel_rfl) (by kernel_rfl) (fun _ _ _ h => h) (Or.inl ⟨by rfl, ?_⟩) ?_
      rotate_left
      · (intro w hE; have a0 := cellb a0 hE; have c0 := cellb c0 hE; have c1 := cellb c1 hE; (try dsimp only); go_simp); (try with_reducible rfl)
      try simp only [Act.put, List.setIfInBounds_toArray, List.set_cons_zero, List.set_cons_succ]
      refine wpAnyE_take (i := 17) (oi := { dst := some 8, op := Op.assign (Operand.tmp 32), type := 3, pos := "ref.go:282", after := #[{ on := 16, ground := Ground.data }, { on := 0, ground := Ground.phase }, { on := 1, ground := Ground.phase }, { on := 2, ground := Ground.phase }, { on := 3, ground := Ground.phase }, { on := 4, ground := Ground.phase }, { on := 5, ground := Ground.phase }, { on := 6, ground := Ground.phase }, { on := 7, ground := Ground.phase }, { on := 8, ground := Ground.phase }, { on := 9, ground := Ground.phase }, { on := 10, ground := Ground.phase }, { on := 11, ground := Ground.phase }, { on := 12, ground := Ground.phase }, { on := 13, ground := Ground.phase }, { on := 14, ground := Ground.phase }, { on := 15, ground := Ground.phase }, { on := 16, ground := Ground.phase }], guard := none }) (v := ?_) rfl (by kernel_rfl) (by kernel_rfl) (by kernel_rfl) (by kernel_rfl) (fun _ _ _ h => h) (Or.inl ⟨by rfl, ?_⟩) ?_
      rotate_left
      · (intro w hE; have a0 := cellb a0 hE; have c0 := cellb c0 hE; have c1 := cellb c1 hE; (try dsimp only); go_simp); (try with_reducible rfl)
      try simp only [Act.put, List.setIfInBounds_toArray, List.set_cons_zero, List.set_cons_succ]
      refine wpAnyE_done (by kernel_rfl) (fun wy1 hE => ?_) _
      have hbz1 := bthen hbz hE
      have a0 := cellb a0 hE
      have c0 := cellb c0 hE
      have c1 := cellb c1 hE
      have i1 := i1.carry hE
      have i4 := i4.carry hE
      clear hE
      have hB := hbz1
      obtain ⟨W4, hW4⟩ : ∃ v, v = wy1 := ⟨_, rfl⟩
      rw [← hW4] at hB i1 i4 ⊢
      clear hW4 a0 c0 c1
      go_wp2
      go_roundw
      case rel => exact ⟨k + 1, by omega, by go_num, by rw [HT.out, HLF.out], by rw [HT.out, HLF.out], i1, i4, hB⟩
      case measure => simp [intOf]; omega
    · obtain rfl : k = n := by omega
      rw [List.take_of_length_le (by rw [HN.out]; exact Nat.le_refl _)]
      have hs4 : w.heap.size + 1 < wr.heap.size := Blk.lt i4
      go_wp2_with fail
      refine (TL.out wr).mono ?_
      rintro e W6 ⟨rfl, hb⟩
      replace i4 := i4.carry hb
      replace hB := bthen hB hb
      clear hb a0
      go_wp2_with (refine wpList_storeA rfl _ _ _ rfl (w.heap.size + 1) [r.1, r.2] [0, 0] rfl rfl i4 rfl Tryz.infoRatio ?_)
      have i9 := BlkI.setRowA i4 [r.1, r.2]
      have z0 : (W6.setRow (w.heap.size + 1) (ia [r.1, r.2])).cell? ⟨w.heap.size + 1, 0, none⟩ = some (.int .i64 r.1) := BlkI.cell i9 (j := 0) (by simp)
      have z1 : (W6.setRow (w.heap.size + 1) (ia [r.1, r.2])).cell? ⟨w.heap.size + 1, 1, none⟩ = some (.int .i64 r.2) := BlkI.cell i9 (j := 1) (by simp)
      exact bodyPost_ret (v := .agg #[.int .i64 r.1, .int .i64 r.2]) (by simp [results, Tryz.f99, go_sem, z0, z1]) rfl ⟨rfl, below_rowA hB (by omega) _⟩
end

section
set_option linter.unusedSimpArgs false
set_option linter.unusedVariables false
open Go.RowKit

end

section
set_option linter.unusedSimpArgs false
set_option linter.unusedVariables false
open Go.RowKit

set_option maxRecDepth 100000 in
set_option maxHeartbeats 1000000 in
theorem OwnedR_any (v : Value) (l : List (Int × Int)) (w : World) (hv : Pairs w v l) (hl : l.length ≤ 1000000) (h0 : 0 < l.length) :
    Calls Tryz.prog 176 #[.agg #[v]] w fun e w' => (∃ u, e = .returned (.agg #[u]) ∧ w'.ownsRow (w.heap.size + 3) 141 2 u l.length ((flat2 l).map (Value.int .i64))) ∧ Below w.heap.size w w' := by
  obtain ⟨i0, hi, hz0, hz1, hz2⟩ := info_parts Tryz.infoBranchR
  have HV := Lib.hid hv
  obtain ⟨a, cp, rfl, _, _⟩ := id hv
  clear hv
  go_enter Tryz.func176, Tryz.ntmps176
  go_upto_region 1 with fail
  obtain ⟨W1, hW1⟩ : ∃ v, v = World.alloc w (Obj.cells #[.slice a l.length cp] 47) := ⟨_, rfl⟩
  have kW1 : Below w.heap.size w W1 := by rw [hW1]; exact below_new _ _
  have iW1 : Blk W1 (w.heap.size) 47 [.slice a l.length cp] := by rw [hW1]; exact Blk.new _ _ _
  have sW1 : W1.heap.size = w.heap.size + 1 := by rw [hW1]; simp
  rw [← hW1]
  clear hW1
  obtain ⟨W2, hW2⟩ : ∃ v, v = World.alloc W1 (Obj.cells #[.slice none 0 0] 47) := ⟨_, rfl⟩
  have kW2 : Below W1.heap.size W1 W2 := by rw [hW2]; exact below_new _ _
  have iW2 : Blk W2 (w.heap.size + 1) 47 [.slice none 0 0] := by rw [hW2, ← sW1]; exact Blk.new _ _ _
  have sW2 : W2.heap.size = w.heap.size + 1 + 1 := by rw [hW2]; simp [sW1]
  rw [← hW2]
  clear hW2
  have i2 := iW2
  have hB := bthen kW1 kW2
  have a0 := (iW1.carry kW2).cell (j := 0) (v := .slice a l.length cp) rfl
  have hs2 : W2.heap.size = w.heap.size + 2 := by omega
  have hs3 : (W2.alloc (.cells #[] 141)).heap.size = w.heap.size + 3 := by simp; omega
  have HS3 := Lib.hid hs3
  clear iW1 iW2 kW1 kW2 sW1 sW2 hs2 hs3
  have k1 := below_new W2 (.cells #[] 141)
  have c1 := bthen hB k1
  have a1 := cellb a0 k1
  have i3 := i2.carry k1
  go_wp2_with (at_builtin; refine wpList_append_freshO rfl (.tmp 3) (.tmp 5) 45 45 141 rfl i0 (.agg #[.int .i64 0, .int .i64 0]) 2 16 Tryz.undBranchesR hi hz0 hz1 hz2 rfl W2.heap.size 0 rfl (.slice a l.length cp) l.length _ rfl ((HV.out.carry c1).src Tryz.undBranchesR h0) h0 (by unfold maxLen; omega) (by omega) ?_; intro u w2 hown hb; obtain ⟨ua, uc, rfl⟩ := ownsRow_slice hown; have i4 := i3.carry hb; have c2 := bthen c1 hb; have z4 := i4.cell (j := 0) (v := .slice none 0 0) rfl; have f4 := i4.frozen 0; have hlt := Blk.lt i4)
  have hs3 := HS3.out
  have hown9 := own_setCell (x := .slice ua l.length uc) (B := w.heap.size + 1) (j := 0) hown (by omega)
  rw [hs3] at hown9
  have z0 := (i4.set 0 (.slice ua l.length uc)).cell (j := 0) (v := .slice ua l.length uc) rfl
  exact bodyPost_ret (v := .agg #[.slice ua l.length uc]) (by simp [results, Tryz.f176, go_sem, z0]) rfl ⟨⟨_, rfl, hown9⟩, c2.setCell (by simp) _⟩

theorem Pairs.of_blkT {w : World} {G : Nat} {T : TypeId} {ls : List (Int × Int)} {cap : Nat} {vs : List Value} (h : Blk w G T vs) (ht : vs.take (ls.length * 2) = (flat2 ls).map (Value.int .i64)) (hc : ls.length ≤ cap) : Pairs w (.slice (some ⟨G, 0, none⟩) ls.length cap) ls := by
  have hg : ∀ j y, (flat2 ls)[j]? = some y → vs[j]? = some (Value.int .i64 y) := fun j y hj => by
    have hlt : j < ls.length * 2 := by have := (List.getElem?_eq_some_iff.1 hj).1; rwa [flat2_length] at this
    have h2 : (vs.take (ls.length * 2))[j]? = some (.int .i64 y) := by rw [ht, List.getElem?_map, hj]; rfl
    rwa [List.getElem?_take_of_lt hlt] at h2
  refine ⟨_, cap, rfl, hc, fun _ => ⟨G, 0, rfl, fun j x hj => ?_⟩⟩
  obtain ⟨h0, h1⟩ := flat2_get ls j x hj
  rw [Nat.zero_add]
  exact ⟨h.cell (hg _ _ h0), h.cell (hg _ _ h1)⟩
theorem Pairs.none' (w : World) : Pairs w (.slice none 0 0) [] := Pairs.nil' w none 0

def tapE (E : Int) : Int := bif E == 0 then 0 else 4
def lsIf (E : Int) (L : List (Int × Int)) : List (Int × Int) := bif E == 0 then L else []
theorem take_setP (vs : List Value) (F : List Int) (m j : Nat) (x : Int) (h : vs.take m = F.map (Value.int .i64)) : (vs.set j (.int .i64 x)).take m = (F.set j x).map (Value.int .i64) := by
  rw [List.take_set, h, List.map_set]

set_option maxRecDepth 100000 in
set_option maxHeartbeats 4000000 in
theorem TappedR_any (v : Value) (ls : List (Int × Int)) (b : Nat) (tap : Int) (w : World) (hv : Pairs w v ls) (hl : ls.length ≤ 1000000) (hb : b < ls.length) :
    Calls Tryz.prog 149 #[.agg #[v], .int .i64 b, .int .i64 tap] w fun e w' => (∃ u, e = .returned (.tuple #[.agg #[u], .int .i64 (tapE (fltE (tapL ls b tap)))]) ∧ Pairs w' u (lsIf (fltE (tapL ls b tap)) (tapL ls b tap))) ∧ Below w.heap.size w w' := by
  have TO := Lib.hid (fun W hP => OwnedR_any v ls W hP hl (by omega))
  obtain ⟨n, hn⟩ : ∃ n, n = ls.length := ⟨_, rfl⟩
  obtain ⟨x, hx⟩ : ∃ x, ls[b]? = some x := ⟨_, List.getElem?_eq_getElem hb⟩
  obtain ⟨g0, _⟩ := flat2_get ls b x hx
  have hset := flat2_set ls b x (wrap64 (x.1 + tap)) hx
  have htl : tapL ls b tap = ls.set b (wrap64 (x.1 + tap), x.2) := by rw [tapL, hx]; rfl
  have htn : (tapL ls b tap).length = n := by rw [htl, List.length_set, hn]
  rw [← htl, ← wrapEq] at hset
  have hfl : (flat2 ls).length = n * 2 := by rw [flat2_length, hn]
  rw [← hn] at hb hl TO
  have TC := Lib.hid (fun u W hP => CheckFilterR_any u (tapL ls b tap) W hP (by rw [htn]; exact hl))
  obtain ⟨E, hE⟩ : ∃ E, E = fltE (tapL ls b tap) := ⟨_, rfl⟩
  rw [← hE] at TC ⊢
  generalize tapL ls b tap = R at hset htn TC ⊢
  have HV := Lib.hid hv
  obtain ⟨a, cp, rfl, _, _⟩ := id hv
  rw [← hn] at HV TO ⊢
  obtain ⟨F, hF⟩ : ∃ F, F = flat2 ls := ⟨_, rfl⟩
  rw [← hF] at hset hfl g0 TO
  have HSET := Lib.hid hset
  have HTN := Lib.hid htn
  have HFL := Lib.hid hfl
  have HG0 := Lib.hid g0
  have d1 : (b : Int) < (n : Int) := by omega
  clear hv hx htl hset htn hF hn g0 hfl hE
  go_enter Tryz.func149, Tryz.ntmps149
  go_upto_region 1 with fail
  obtain ⟨W1, hW1⟩ : ∃ v, v = World.alloc w (Obj.cells #[.slice a n cp] 47) := ⟨_, rfl⟩
  have kW1 : Below w.heap.size w W1 := by rw [hW1]; exact below_new _ _
  have iW1 : Blk W1 (w.heap.size) 47 [.slice a n cp] := by rw [hW1]; exact Blk.new _ _ _
  have sW1 : W1.heap.size = w.heap.size + 1 := by rw [hW1]; simp
  rw [← hW1]
  clear hW1
  obtain ⟨W2, hW2⟩ : ∃ v, v = World.alloc W1 (Obj.cells #[.slice none 0 0] 47) := ⟨_, rfl⟩
  have kW2 : Below W1.heap.size W1 W2 := by rw [hW2]; exact below_new _ _
  have iW2 : Blk W2 (w.heap.size + 1) 47 [.slice none 0 0] := by rw [hW2, ← sW1]; exact Blk.new _ _ _
  have sW2 : W2.heap.size = w.heap.size + 1 + 1 := by rw [hW2]; simp [sW1]
  rw [← hW2]
  clear hW2
  have i6 := iW2
  have hB := bthen kW1 kW2
  have a0 := (iW1.carry kW2).cell (j := 0) (v := .slice a n cp) rfl
  have hq2 : w.heap.size + 1 < W2.heap.size := Blk.lt iW2
  clear iW1 iW2 kW1 kW2 sW1 sW2
  go_wp2_with fail
  refine (TO.out W2 (HV.out.carry hB)).mono ?_
  rintro e W3 ⟨⟨u, rfl, hown⟩, hb3⟩
  replace i6 := i6.carry hb3
  replace hB := bthen hB hb3
  obtain ⟨n', hn'⟩ : ∃ n', n = n' + 1 := ⟨n - 1, by omega⟩
  rw [hn'] at hown
  obtain ⟨G, uc, rfl⟩ := ownsRow_succ2 hown
  rw [← hn'] at hown ⊢
  rcases hown.2 with ⟨hbad, _⟩ | ⟨G', cap', cur, hu, hGb, hg, hnc, hcm, hcs, htk⟩
  · simp at hbad
  simp only [Value.slice.injEq, Option.some.injEq, Addr.mk.injEq, and_true, true_and] at hu
  obtain ⟨rfl, rfl⟩ := hu
  have i7 : Blk W3 G 141 cur.toList := hg
  have hG6 : w.heap.size + 1 < G := by omega
  have hG3 : G < W3.heap.size := Blk.lt i7
  have ht0 : cur.toList.take (n * 2) = F.map (Value.int .i64) := htk
  have HT := Lib.hid ht0
  have HCS := Lib.hid hcs
  clear hown htk ht0 hcs hb3 hg hGb hq2 a0 hn'
  go_upto_region 2 with fail
  obtain ⟨W4, hW4⟩ : ∃ v, v = World.alloc W3 (Obj.cells #[.slice (some ⟨G, 0, none⟩) n uc] 47) := ⟨_, rfl⟩
  have kW4 : Below W3.heap.size W3 W4 := by rw [hW4]; exact below_new _ _
  have iW4 : Blk W4 (W3.heap.size) 47 [.slice (some ⟨G, 0, none⟩) n uc] := by rw [hW4]; exact Blk.new _ _ _
  have sW4 : W4.heap.size = W3.heap.size + 1 := by rw [hW4]; simp
  rw [← hW4]
  clear hW4
  replace i6 := i6.carry kW4
  replace i7 := i7.carry kW4
  replace hB := bthen hB kW4
  have z4 := iW4.cell (j := 0) (v := .slice (some ⟨G, 0, none⟩) n uc) rfl
  have hGn : W3.heap.size ≠ G := by omega
  have i8 := iW4
  have c0 : W4.cell? ⟨G, b * 2, none⟩ = some (.int .i64 x.1) := i7.cell (by
    have h := HG0.out
    have hb2 : b * 2 < n * 2 := by omega
    have h2 : (cur.toList.take (n * 2))[b * 2]? = some (.int .i64 x.1) := by rw [HT.out, List.getElem?_map, h]; rfl
    rw [List.getElem?_take_of_lt hb2] at h2
    exact h2)
  clear kW4 sW4 iW4
  refine wp_region_E 13 (by kernel_rfl) ?_
  obtain ⟨wz, hwz⟩ : ∃ v, v = W4.drew := ⟨_, rfl⟩
  rw [← hwz]
  have hlz : Below W4.heap.size W4 wz := by rw [hwz]; exact (Below.refl _ _).drew
  have hbz := bthen hB hlz
  have z4 := cellb z4 hlz
  have c0 := cellb c0 hlz
  have i6 := i6.carry hlz
  have i7 := i7.carry hlz
  have i8 := i8.carry hlz
  clear hwz hlz
  refine wpAnyE_take (i := 0) (oi := { dst := some 11, op := Op.fieldAddr 47 (Operand.tmp 8) 0, type := 0, pos := "ref.go:309", after := #[], guard := none }) (v := ?_) rfl (by kernel_rfl) (by kernel_rfl) (by kernel_rfl) (by kernel_rfl) (fun _ _ _ h => h) (Or.inl ⟨by rfl, ?_⟩) ?_
  rotate_left
  · (intro w hE; have z4 := cellb z4 hE; have c0 := cellb c0 hE; (try dsimp only); go_simp); (try with_reducible rfl)
  try simp only [Act.put, List.setIfInBounds_toArray, List.set_cons_zero, List.set_cons_succ]
  refine wpAnyE_take (i := 1) (oi := { dst := some 12, op := Op.load 45 (Operand.tmp 11), type := 45, pos := "ref.go:309", after := #[{ on := 0, ground := Ground.data }], guard := none }) (v := ?_) rfl (by kernel_rfl) (by kernel_rfl) (by kernel_rfl) (by kernel_rfl) (fun _ _ _ h => h) (Or.inl ⟨by rfl, ?_⟩) ?_
  rotate_left
  · (intro w hE; have z4 := cellb z4 hE; have c0 := cellb c0 hE; (try dsimp only); go_simp); (try with_reducible rfl)
  try simp only [Act.put, List.setIfInBounds_toArray, List.set_cons_zero, List.set_cons_succ]
  refine wpAnyE_take (i := 2) (oi := { dst := some 13, op := Op.move (Operand.tmp 1), type := 3, pos := "ref.go:309", after := #[], guard := none }) (v := ?_) rfl (by kernel_rfl) (by kernel_rfl) (by kernel_rfl) (by kernel_rfl) (fun _ _ _ h => h) (Or.inl ⟨by rfl, ?_⟩) ?_
  rotate_left
  · (intro w hE; have z4 := cellb z4 hE; have c0 := cellb c0 hE; (try dsimp only); go_simp); (try with_reducible rfl)
  try simp only [Act.put, List.setIfInBounds_toArray, List.set_cons_zero, List.set_cons_succ]
  refine wpAnyE_take (i := 3) (oi := { dst := some 14, op := Op.fieldAddr 47 (Operand.tmp 8) 0, type := 0, pos := "ref.go:309", after := #[], guard := none }) (v := ?_) rfl (by kernel_rfl) (by kernel_rfl) (by kernel_rfl) (by kernel_rfl) (fun _ _ _ h => h) (Or.inl ⟨by rfl, ?_⟩) ?_
  rotate_left
  · (intro w hE; have z4 := cellb z4 hE; have c0 := cellb c0 hE; (try dsimp only); go_simp); (try with_reducible rfl)
  try simp only [Act.put, List.setIfInBounds_toArray, List.set_cons_zero, List.set_cons_succ]
  refine wpAnyE_take (i := 4) (oi := { dst := some 15, op := Op.load 45 (Operand.tmp 14), type := 45, pos := "ref.go:309", after := #[{ on := 3, ground := Ground.data }], guard := none }) (v := ?_) rfl (by kernel_rfl) (by kernel_rfl) (by kernel_rfl) (by kernel_rfl) (fun _ _ _ h => h) (Or.inl ⟨by rfl, ?_⟩) ?_
  rotate_left
  · (intro w hE; have z4 := cellb z4 hE; have c0 := cellb c0 hE; (try dsimp only); go_simp); (try with_reducible rfl)
  try simp only [Act.put, List.setIfInBounds_toArray, List.set_cons_zero, List.set_cons_succ]
  refine wpAnyE_take (i := 5) (oi := { dst := some 16, op := Op.move (Operand.tmp 1), type := 3, pos := "ref.go:309", after := #[], guard := none }) (v := ?_) rfl (by kernel_rfl) (by kernel_rfl) (by kernel_rfl) (by kernel_rfl) (fun _ _ _ h => h) (Or.inl ⟨by rfl, ?_⟩) ?_
  rotate_left
  · (intro w hE; have z4 := cellb z4 hE; have c0 := cellb c0 hE; (try dsimp only); go_simp); (try with_reducible rfl)
  try simp only [Act.put, List.setIfInBounds_toArray, List.set_cons_zero, List.set_cons_succ]
  refine wpAnyE_take (i := 6) (oi := { dst := some 17, op := Op.indexAddr 45 (Operand.tmp 15) (Operand.tmp 16), type := 0, pos := "ref.go:309", after := #[{ on := 4, ground := Ground.data }, { on := 5, ground := Ground.data }], guard := none }) (v := ?_) rfl (by kernel_rfl) (by kernel_rfl) (by kernel_rfl) (by kernel_rfl) (fun _ _ _ h => h) (Or.inl ⟨by rfl, ?_⟩) ?_
  rotate_left
  · (intro w hE; have z4 := cellb z4 hE; have c0 := cellb c0 hE; (try dsimp only); go_simp); (try with_reducible rfl)
  try simp only [Act.put, List.setIfInBounds_toArray, List.set_cons_zero, List.set_cons_succ]
  refine wpAnyE_take (i := 7) (oi := { dst := some 18, op := Op.fieldAddr 141 (Operand.tmp 17) 0, type := 0, pos := "ref.go:309", after := #[{ on := 6, ground := Ground.data }], guard := none }) (v := ?_) rfl (by kernel_rfl) (by kernel_rfl) (by kernel_rfl) (by kernel_rfl) (fun _ _ _ h => h) (Or.inl ⟨by rfl, ?_⟩) ?_
  rotate_left
  · (intro w hE; have z4 := cellb z4 hE; have c0 := cellb c0 hE; (try dsimp only); go_simp); (try with_reducible rfl)
  try simp only [Act.put, List.setIfInBounds_toArray, List.set_cons_zero, List.set_cons_succ]
  refine wpAnyE_take (i := 8) (oi := { dst := some 19, op := Op.load 3 (Operand.tmp 18), type := 3, pos := "ref.go:309", after := #[{ on := 7, ground := Ground.data }], guard := none }) (v := ?_) rfl (by kernel_rfl) (by kernel_rfl) (by kernel_rfl) (by kernel_rfl) (fun _ _ _ h => h) (Or.inl ⟨by rfl, ?_⟩) ?_
  rotate_left
  · (intro w hE; have z4 := cellb z4 hE; have c0 := cellb c0 hE; (try dsimp only); go_simp); (try with_reducible rfl)
  try simp only [Act.put, List.setIfInBounds_toArray, List.set_cons_zero, List.set_cons_succ]
  refine wpAnyE_take (i := 9) (oi := { dst := some 20, op := Op.move (Operand.tmp 2), type := 3, pos := "ref.go:309", after := #[], guard := none }) (v := ?_) rfl (by kernel_rfl) (by kernel_rfl) (by kernel_rfl) (by kernel_rfl) (fun _ _ _ h => h) (Or.inl ⟨by rfl, ?_⟩) ?_
  rotate_left
  · (intro w hE; have z4 := cellb z4 hE; have c0 := cellb c0 hE; (try dsimp only); go_simp); (try with_reducible rfl)
  try simp only [Act.put, List.setIfInBounds_toArray, List.set_cons_zero, List.set_cons_succ]
  refine wpAnyE_take (i := 10) (oi := { dst := some 21, op := Op.binOp BinOp.add 3 (Operand.tmp 19) (Operand.tmp 20) 3, type := 3, pos := "ref.go:309", after := #[{ on := 8, ground := Ground.data }, { on := 9, ground := Ground.data }], guard := none }) (v := ?_) rfl (by kernel_rfl) (by kernel_rfl) (by kernel_rfl) (by kernel_rfl) (fun _ _ _ h => h) (Or.inl ⟨by rfl, ?_⟩) ?_
  rotate_left
  · (intro w hE; have z4 := cellb z4 hE; have c0 := cellb c0 hE; (try dsimp only); go_simp); (try with_reducible rfl)
  try simp only [Act.put, List.setIfInBounds_toArray, List.set_cons_zero, List.set_cons_succ]
  refine wpAnyE_one (i := 11) (o := { dst := some 22, op := Op.indexAddr 45 (Operand.tmp 12) (Operand.tmp 13), type := 0, pos := "ref.go:309", after := #[{ on := 1, ground := Ground.data }, { on := 2, ground := Ground.data }, { on := 0, ground := Ground.phase }, { on := 1, ground := Ground.phase }, { on := 2, ground := Ground.phase }, { on := 3, ground := Ground.phase }, { on := 4, ground := Ground.phase }, { on := 5, ground := Ground.phase }, { on := 6, ground := Ground.phase }, { on := 7, ground := Ground.phase }, { on := 8, ground := Ground.phase }, { on := 9, ground := Ground.phase }, { on := 10, ground := Ground.phase }], guard := none }) (by kernel_rfl) rfl (fun wy1 hE K hK => ?_)
  have z4 := cellb z4 hE
  have c0 := cellb c0 hE
  have i6 := i6.carry hE
  have i7 := i7.carry hE
  have i8 := i8.carry hE
  have hbz1 := bthen hbz hE
  go_simp
  refine hK _ _ (fun _ => Below.refl _ _) ?_
  clear hK K hE
  try simp only [Act.put, List.setIfInBounds_toArray, List.set_cons_zero, List.set_cons_succ]
  refine wpAnyE_one (i := 12) (o := { dst := some 23, op := Op.fieldAddr 141 (Operand.tmp 22) 0, type := 0, pos := "ref.go:309", after := #[{ on := 11, ground := Ground.data }, { on := 0, ground := Ground.phase }, { on := 1, ground := Ground.phase }, { on := 2, ground := Ground.phase }, { on := 3, ground := Ground.phase }, { on := 4, ground := Ground.phase }, { on := 5, ground := Ground.phase }, { on := 6, ground := Ground.phase }, { on := 7, ground := Ground.phase }, { on := 8, ground := Ground.phase }, { on := 9, ground := Ground.phase }, { on := 10, ground := Ground.phase }], guard := none }) (by kernel_rfl) rfl (fun wy2 hE K hK => ?_)
  have z4 := cellb z4 hE
  have c0 := cellb c0 hE
  have i6 := i6.carry hE
  have i7 := i7.carry hE
  have i8 := i8.carry hE
  have hbz2 := bthen hbz1 hE
  go_simp
  refine hK _ _ (fun _ => Below.refl _ _) ?_
  clear hK K hE
  try simp only [Act.put, List.setIfInBounds_toArray, List.set_cons_zero, List.set_cons_succ]
  refine wpAnyE_one (i := 13) (o := { dst := none, op := Op.store 3 (Operand.tmp 23) (Operand.tmp 21), type := 0, pos := "ref.go:309", after := #[{ on := 12, ground := Ground.data }, { on := 10, ground := Ground.data }, { on := 0, ground := Ground.phase }, { on := 1, ground := Ground.phase }, { on := 2, ground := Ground.phase }, { on := 3, ground := Ground.phase }, { on := 4, ground := Ground.phase }, { on := 5, ground := Ground.phase }, { on := 6, ground := Ground.phase }, { on := 7, ground := Ground.phase }, { on := 8, ground := Ground.phase }, { on := 9, ground := Ground.phase }, { on := 10, ground := Ground.phase }], guard := none }) (by kernel_rfl) rfl (fun wy3 hE K hK => ?_)
  have z4 := cellb z4 hE
  have c0 := cellb c0 hE
  have i6 := i6.carry hE
  have i7 := i7.carry hE
  have i8 := i8.carry hE
  have hbz3 := bthen hbz2 hE
  clear hE
  have f0 := i7.frozen (b * 2)
  go_simp
  obtain ⟨wx3, hwz⟩ : ∃ v, v = wy3.setCell ⟨G, b * 2, none⟩ (.int .i64 (IntKind.i64.wrap (x.1 + tap))) := ⟨_, rfl⟩
  rw [← hwz]
  have hcz3 : Below w.heap.size w wx3 := by rw [hwz]; exact (hbz3).setCell (by simp; omega) _
  replace i7 := i7.set (b * 2) (.int .i64 (IntKind.i64.wrap (x.1 + tap)))
  replace i6 := i6.other (j := b * 2) (by omega : w.heap.size + 1 ≠ G) (.int .i64 (IntKind.i64.wrap (x.1 + tap)))
  replace i8 := i8.other (j := b * 2) hGn (.int .i64 (IntKind.i64.wrap (x.1 + tap)))
  rw [← hwz] at i6 i7 i8
  clear hwz
  refine hK _ _ (fun h => absurd rfl h) ?_
  clear hK K
  try simp only [Act.put, List.setIfInBounds_toArray, List.set_cons_zero, List.set_cons_succ]
  refine wpAnyE_done (by kernel_rfl) (fun wy4 hE => ?_) _
  have hbz4 := bthen hcz3 hE
  have i6 := i6.carry hE
  have i7 := i7.carry hE
  have i8 := i8.carry hE
  clear hE
  have hB := hbz4
  obtain ⟨W5, hW5⟩ : ∃ v, v = wy4 := ⟨_, rfl⟩
  rw [← hW5] at hB i6 i7 i8 ⊢
  clear hW5
  have hvs : (cur.toList.set (b * 2) (.int .i64 (IntKind.i64.wrap (x.1 + tap)))).take (n * 2) = (flat2 R).map (Value.int .i64) := by
    rw [take_setP _ F _ _ _ HT.out, HSET.out]
  obtain ⟨vs, hvv⟩ : ∃ vs, vs = cur.toList.set (b * 2) (.int .i64 (IntKind.i64.wrap (x.1 + tap))) := ⟨_, rfl⟩
  rw [← hvv] at hvs i7
  have HPF := Lib.hid (fun W (h : Blk W G 141 vs) => show Pairs W (.slice (some ⟨G, 0, none⟩) n uc) R by
    have := Pairs.of_blkT (ls := R) (cap := uc) h (by rw [HTN.out]; exact hvs) (by rw [HTN.out]; exact hnc)
    rw [HTN.out] at this
    exact this)
  have z4 := i8.cell (j := 0) (v := .slice (some ⟨G, 0, none⟩) n uc) rfl
  clear hvs hvv
  go_wp2_with fail
  refine (TC.out _ W5 (HPF.out _ i7)).mono ?_
  rintro e W6 ⟨rfl, hb6⟩
  replace i6 := i6.carry hb6
  replace i8 := i8.carry hb6
  replace hB := bthen hB hb6
  replace i7 := i7.carry hb6
  clear hb6 z4
  have z4 := i8.cell (j := 0) (v := .slice (some ⟨G, 0, none⟩) n uc) rfl
  have z6 := i6.cell (j := 0) (v := .slice none 0 0) rfl
  have f6 := i6.frozen 0
  by_cases hE : E = 0
  · subst hE
    go_wp2_with fail
    have i9 := i6.set 0 (.slice (some ⟨G, 0, none⟩) n uc)
    have z0 := i9.cell (j := 0) (v := .slice (some ⟨G, 0, none⟩) n uc) rfl
    exact bodyPost_ret (v := .tuple #[.agg #[.slice (some ⟨G, 0, none⟩) n uc], .int .i64 0]) (by simp [results, Tryz.f149, go_sem, z0]) rfl ⟨⟨_, rfl, HPF.out _ (i7.other (by omega) _)⟩, hB.setCell (by simp) _⟩
  · have z : (E == 0) = false := by rw [beq_eq_false_iff_ne]; exact hE
    have z' : (E != 0) = true := by rw [bne_iff_ne]; exact hE
    have HZ := Lib.hid z
    clear z
    go_wp2_with fail
    have i9 := i6.set 0 (.slice none 0 0)
    have z0 := i9.cell (j := 0) (v := .slice none 0 0) rfl
    exact bodyPost_ret (v := .tuple #[.agg #[.slice none 0 0], .int .i64 4]) (by simp [results, Tryz.f149, go_sem, z0]) rfl ⟨⟨_, by rw [tapE, HZ.out]; rfl, by rw [lsIf, HZ.out]; exact Pairs.none' _⟩, hB.setCell (by simp) _⟩

theorem neqBranchR (a b c d : Int) (W : World) : Sem.run Tryz.prog (binOp .neq 141 (.agg #[.int .i64 a, .int .i64 b]) (.agg #[.int .i64 c, .int .i64 d])) W = .ok (.bool (!(a == c && b == d))) W := by
  go_simp
  by_cases h1 : a = c <;> by_cases h2 : b = d <;> simp [h1, h2]
set_option maxRecDepth 100000 in
set_option maxHeartbeats 4000000 in
theorem SameR_any (va vb : Value) (l m : List (Int × Int)) (w : World) (ha : Pairs w va l) (hb : Pairs w vb m) (hl : l.length ≤ 1000000) :
    Calls Tryz.prog 50 #[.agg #[va], .agg #[vb]] w fun e w' => e = .returned (.bool (decide (l = m))) ∧ Below w.heap.size w w' := by
  obtain ⟨xa, ca, rfl, _, hca⟩ := ha
  obtain ⟨xb, cb, rfl, _, hcb⟩ := hb
  by_cases hlen : l.length = m.length
  · have hb0 : ((l.length : Int) != (m.length : Int)) = false := by rw [bne_eq_false_iff_eq]; omega
    rw [hlen] at hb0 hl hca ⊢
    have HL := Lib.hid hlen
    clear hlen hb0
    go_enter Tryz.func50, Tryz.ntmps50
    go_upto_region 1 with fail
    obtain ⟨W1, hW1⟩ : ∃ v, v = World.alloc w (Obj.cells #[.slice xa m.length ca] 47) := ⟨_, rfl⟩
    have kW1 : Below w.heap.size w W1 := by rw [hW1]; exact below_new _ _
    have iW1 : Blk W1 (w.heap.size) 47 [.slice xa m.length ca] := by rw [hW1]; exact Blk.new _ _ _
    have sW1 : W1.heap.size = w.heap.size + 1 := by rw [hW1]; simp
    rw [← hW1]
    clear hW1
    obtain ⟨W2, hW2⟩ : ∃ v, v = World.alloc W1 (Obj.cells #[.slice xb m.length cb] 47) := ⟨_, rfl⟩
    have kW2 : Below W1.heap.size W1 W2 := by rw [hW2]; exact below_new _ _
    have iW2 : Blk W2 (w.heap.size + 1) 47 [.slice xb m.length cb] := by rw [hW2, ← sW1]; exact Blk.new _ _ _
    have sW2 : W2.heap.size = w.heap.size + 1 + 1 := by rw [hW2]; simp [sW1]
    rw [← hW2]
    clear hW2
    have i1 := iW1.carry kW2
    have i2 := iW2
    have hB := bthen kW1 kW2
    have a1 := i1.cell (j := 0) (v := .slice xa m.length ca) rfl
    have a2 := i2.cell (j := 0) (v := .slice xb m.length cb) rfl
    clear iW1 iW2 kW1 kW2 sW1 sW2
    go_wp2_with fail
    go_loopw [5] (fun i wr => ∃ k : Nat, k ≤ m.length ∧ i = .int .i64 k ∧ l.take k = m.take k ∧ Blk wr w.heap.size 47 [.slice xa m.length ca] ∧ Blk wr (w.heap.size + 1) 47 [.slice xb m.length cb] ∧ Below w.heap.size w wr) (fun i _ => m.length - (intOf i).toNat)
    case atStart => exact ⟨0, by omega, rfl, rfl, i1, i2, hB⟩
    case round =>
      clear hB i1 i2 a1 a2
      obtain ⟨k, hk, rfl, hab, i1, i2, hB⟩ := hrel
      have HAB := Lib.hid hab
      have a1 := i1.cell (j := 0) (v := .slice xa m.length ca) rfl
      have a2 := i2.cell (j := 0) (v := .slice xb m.length cb) rfl
      clear hab
      by_cases hlt : k < m.length
      · obtain ⟨ba, oa, rfl, hda⟩ := hca (by omega)
        obtain ⟨bb, ob, rfl, hdb⟩ := hcb (by omega)
        obtain ⟨x, hx⟩ : ∃ x, l[k]? = some x := ⟨_, List.getElem?_eq_getElem (by rw [HL.out]; exact hlt)⟩
        obtain ⟨y, hy⟩ : ∃ y, m[k]? = some y := ⟨_, List.getElem?_eq_getElem hlt⟩
        obtain ⟨c0, c1⟩ := hda k x hx
        obtain ⟨c2, c3⟩ := hdb k y hy
        have c0 := cellb c0 hB
        have c1 := cellb c1 hB
        have c2 := cellb c2 hB
        have c3 := cellb c3 hB
        have HX := Lib.hid hx
        have HY := Lib.hid hy
        obtain ⟨x0, x1⟩ := x
        obtain ⟨y0, y1⟩ := y
        simp only at c0 c1 c2 c3
        have e1 : (k : Int) < (m.length : Int) := by omega
        have hne := fun W => neqBranchR x0 x1 y0 y1 W
        clear hda hdb hx hy hca hcb
        obtain ⟨q, hq⟩ : ∃ q, q = (!(x0 == y0 && x1 == y1)) := ⟨_, rfl⟩
        rw [← hq] at hne
        have HQ := Lib.hid hq
        clear hq
        go_wp2_with fail
        refine wp_region_E 99 (by kernel_rfl) ?_
        obtain ⟨wz, hwz⟩ : ∃ v, v = wr.drew := ⟨_, rfl⟩
        rw [← hwz]
        have hlz : Below wr.heap.size wr wz := by rw [hwz]; exact (Below.refl _ _).drew
        have hbz := bthen hB hlz
        have a1 := cellb a1 hlz
        have a2 := cellb a2 hlz
        have c0 := cellb c0 hlz
        have c1 := cellb c1 hlz
        have c2 := cellb c2 hlz
        have c3 := cellb c3 hlz
        have i1 := i1.carry hlz
        have i2 := i2.carry hlz
        clear hwz hlz
        refine wpAnyE_take (i := 0) (oi := { dst := some 20, op := Op.fieldAddr 47 (Operand.tmp 2) 0, type := 0, pos := "ref.go:523", after := #[], guard := none }) (v := ?_) rfl (by kernel_rfl) (by kernel_rfl) (by kernel_rfl) (by kernel_rfl) (fun _ _ _ h => h) (Or.inl ⟨by rfl, ?_⟩) ?_
        rotate_left
        · (intro w hE; have a1 := cellb a1 hE; have a2 := cellb a2 hE; have c0 := cellb c0 hE; have c1 := cellb c1 hE; have c2 := cellb c2 hE; have c3 := cellb c3 hE; (try dsimp only); go_simp); (try with_reducible rfl)
        try simp only [Act.put, List.setIfInBounds_toArray, List.set_cons_zero, List.set_cons_succ]
        refine wpAnyE_take (i := 1) (oi := { dst := some 21, op := Op.load 45 (Operand.tmp 20), type := 45, pos := "ref.go:523", after := #[{ on := 0, ground := Ground.data }], guard := none }) (v := ?_) rfl (by kernel_rfl) (by kernel_rfl) (by kernel_rfl) (by kernel_rfl) (fun _ _ _ h => h) (Or.inl ⟨by rfl, ?_⟩) ?_
        rotate_left
        · (intro w hE; have a1 := cellb a1 hE; have a2 := cellb a2 hE; have c0 := cellb c0 hE; have c1 := cellb c1 hE; have c2 := cellb c2 hE; have c3 := cellb c3 hE; (try dsimp only); go_simp); (try with_reducible rfl)
        try simp only [Act.put, List.setIfInBounds_toArray, List.set_cons_zero, List.set_cons_succ]
        refine wpAnyE_take (i := 2) (oi := { dst := some 22, op := Op.move (Operand.tmp 5), type := 3, pos := "ref.go:523", after := #[], guard := none }) (v := ?_) rfl (by kernel_rfl) (by kernel_rfl) (by kernel_rfl) (by kernel_rfl) (fun _ _ _ h => h) (Or.inl ⟨by rfl, ?_⟩) ?_
        rotate_left
        · (intro w hE; have a1 := cellb a1 hE; have a2 := cellb a2 hE; have c0 := cellb c0 hE; have c1 := cellb c1 hE; have c2 := cellb c2 hE; have c3 := cellb c3 hE; (try dsimp only); go_simp); (try with_reducible rfl)
        try simp only [Act.put, List.setIfInBounds_toArray, List.set_cons_zero, List.set_cons_succ]
        refine wpAnyE_take (i := 3) (oi := { dst := some 23, op := Op.indexAddr 45 (Operand.tmp 21) (Operand.tmp 22), type := 0, pos := "ref.go:523", after := #[{ on := 1, ground := Ground.data }, { on := 2, ground := Ground.data }], guard := none }) (v := ?_) rfl (by kernel_rfl) (by kernel_rfl) (by kernel_rfl) (by kernel_rfl) (fun _ _ _ h => h) (Or.inl ⟨by rfl, ?_⟩) ?_
        rotate_left
        · (intro w hE; have a1 := cellb a1 hE; have a2 := cellb a2 hE; have c0 := cellb c0 hE; have c1 := cellb c1 hE; have c2 := cellb c2 hE; have c3 := cellb c3 hE; (try dsimp only); go_simp); (try with_reducible rfl)
        try simp only [Act.put, List.setIfInBounds_toArray, List.set_cons_zero, List.set_cons_succ]
        refine wpAnyE_take (i := 4) (oi := { dst := some 24, op := Op.load 141 (Operand.tmp 23), type := 141, pos := "ref.go:523", after := #[{ on := 3, ground := Ground.data }], guard := none }) (v := ?_) rfl (by kernel_rfl) (by kernel_rfl) (by kernel_rfl) (by kernel_rfl) (fun _ _ _ h => h) (Or.inl ⟨by rfl, ?_⟩) ?_
        rotate_left
        · (intro w hE; have a1 := cellb a1 hE; have a2 := cellb a2 hE; have c0 := cellb c0 hE; have c1 := cellb c1 hE; have c2 := cellb c2 hE; have c3 := cellb c3 hE; (try dsimp only); go_simp); (try with_reducible rfl)
        try simp only [Act.put, List.setIfInBounds_toArray, List.set_cons_zero, List.set_cons_succ]
        refine wpAnyE_take (i := 5) (oi := { dst := some 25, op := Op.fieldAddr 47 (Operand.tmp 3) 0, type := 0, pos := "ref.go:523", after := #[], guard := none }) (v := ?_) rfl (by kernel_rfl) (by kernel_rfl) (by kernel_rfl) (by kernel_rfl) (fun _ _ _ h => h) (Or.inl ⟨by rfl, ?_⟩) ?_
        rotate_left
        · (intro w hE; have a1 := cellb a1 hE; have a2 := cellb a2 hE; have c0 := cellb c0 hE; have c1 := cellb c1 hE; have c2 := cellb c2 hE; have c3 := cellb c3 hE; (try dsimp only); go_simp); (try with_reducible rfl)
        try simp only [Act.put, List.setIfInBounds_toArray, List.set_cons_zero, List.set_cons_succ]
        refine wpAnyE_take (i := 6) (oi := { dst := some 26, op := Op.load 45 (Operand.tmp 25), type := 45, pos := "ref.go:523", after := #[{ on := 5, ground := Ground.data }], guard := none }) (v := ?_) rfl (by kernel_rfl) (by kernel_rfl) (by kernel_rfl) (by kernel_rfl) (fun _ _ _ h => h) (Or.inl ⟨by rfl, ?_⟩) ?_
        rotate_left
        · (intro w hE; have a1 := cellb a1 hE; have a2 := cellb a2 hE; have c0 := cellb c0 hE; have c1 := cellb c1 hE; have c2 := cellb c2 hE; have c3 := cellb c3 hE; (try dsimp only); go_simp); (try with_reducible rfl)
        try simp only [Act.put, List.setIfInBounds_toArray, List.set_cons_zero, List.set_cons_succ]
        refine wpAnyE_take (i := 7) (oi := { dst := some 27, op := Op.move (Operand.tmp 5), type := 3, pos := "ref.go:523", after := #[], guard := none }) (v := ?_) rfl (by kernel_rfl) (by kernel_rfl) (by kernel_rfl) (by kernel_rfl) (fun _ _ _ h => h) (Or.inl ⟨by rfl, ?_⟩) ?_
        rotate_left
        · (intro w hE; have a1 := cellb a1 hE; have a2 := cellb a2 hE; have c0 := cellb c0 hE; have c1 := cellb c1 hE; have c2 := cellb c2 hE; have c3 := cellb c3 hE; (try dsimp only); go_simp); (try with_reducible rfl)
        try simp only [Act.put, List.setIfInBounds_toArray, List.set_cons_zero, List.set_cons_succ]
        refine wpAnyE_take (i := 8) (oi := { dst := some 28, op := Op.indexAddr 45 (Operand.tmp 26) (Operand.tmp 27), type := 0, pos := "ref.go:523", after := #[{ on := 6, ground := Ground.data }, { on := 7, ground := Ground.data }], guard := none }) (v := ?_) rfl (by kernel_rfl) (by kernel_rfl) (by kernel_rfl) (by kernel_rfl) (fun _ _ _ h => h) (Or.inl ⟨by rfl, ?_⟩) ?_
        rotate_left
        · (intro w hE; have a1 := cellb a1 hE; have a2 := cellb a2 hE; have c0 := cellb c0 hE; have c1 := cellb c1 hE; have c2 := cellb c2 hE; have c3 := cellb c3 hE; (try dsimp only); go_simp); (try with_reducible rfl)
        try simp only [Act.put, List.setIfInBounds_toArray, List.set_cons_zero, List.set_cons_succ]
        refine wpAnyE_take (i := 9) (oi := { dst := some 29, op := Op.load 141 (Operand.tmp 28), type := 141, pos := "ref.go:523", after := #[{ on := 8, ground := Ground.data }], guard := none }) (v := ?_) rfl (by kernel_rfl) (by kernel_rfl) (by kernel_rfl) (by kernel_rfl) (fun _ _ _ h => h) (Or.inl ⟨by rfl, ?_⟩) ?_
        rotate_left
        · (intro w hE; have a1 := cellb a1 hE; have a2 := cellb a2 hE; have c0 := cellb c0 hE; have c1 := cellb c1 hE; have c2 := cellb c2 hE; have c3 := cellb c3 hE; (try dsimp only); go_simp); (try with_reducible rfl)
        try simp only [Act.put, List.setIfInBounds_toArray, List.set_cons_zero, List.set_cons_succ]
        refine wpAnyE_take (i := 10) (oi := { dst := some 30, op := Op.binOp BinOp.neq 141 (Operand.tmp 24) (Operand.tmp 29) 141, type := 4, pos := "ref.go:523", after := #[{ on := 4, ground := Ground.data }, { on := 9, ground := Ground.data }], guard := none }) (v := ?_) rfl (by kernel_rfl) (by kernel_rfl) (by kernel_rfl) (by kernel_rfl) (fun _ _ _ h => h) (Or.inl ⟨by rfl, ?_⟩) ?_
        rotate_left
        · (intro w hE; have a1 := cellb a1 hE; have a2 := cellb a2 hE; have c0 := cellb c0 hE; have c1 := cellb c1 hE; have c2 := cellb c2 hE; have c3 := cellb c3 hE; (try dsimp only); go_simp); (try with_reducible rfl)
        try simp only [Act.put, List.setIfInBounds_toArray, List.set_cons_zero, List.set_cons_succ]
        refine wpAnyE_done (by kernel_rfl) (fun wy1 hE => ?_) _
        have hbz1 := bthen hbz hE
        have a1 := cellb a1 hE
        have a2 := cellb a2 hE
        have c0 := cellb c0 hE
        have c1 := cellb c1 hE
        have c2 := cellb c2 hE
        have c3 := cellb c3 hE
        have i1 := i1.carry hE
        have i2 := i2.carry hE
        clear hE
        have hB := hbz1
        obtain ⟨W4, hW4⟩ : ∃ v, v = wy1 := ⟨_, rfl⟩
        rw [← hW4] at hB i1 i2 ⊢
        clear hW4 a1 a2 c0 c1 c2 c3 hne
        cases q
        · have hxy : x0 = y0 ∧ x1 = y1 := by
            have h := HQ.out
            simpa using h.symm
          obtain ⟨rfl, rfl⟩ := hxy
          go_wp2
          go_roundw
          case rel => exact ⟨k + 1, by omega, by go_num, take_eq_succ HAB.out HX.out HY.out, i1, i2, hB⟩
          case measure => simp [intOf]; omega
        · have hne : l ≠ m := by
            rintro rfl
            have h1 := HX.out
            rw [HY.out] at h1
            obtain ⟨rfl, rfl⟩ := Prod.mk.inj (Option.some.inj h1)
            have h := HQ.out
            simp at h
          have HN := Lib.hid hne
          clear hne
          go_wp2
          go_ret
          exact ⟨ret_bool (by simp [HN.out]), hB⟩
      · obtain rfl : k = m.length := by omega
        have h := HAB.out
        rw [← HL.out, List.take_length, HL.out, List.take_length] at h
        have H := Lib.hid h
        clear h hca hcb
        go_wp2
        go_ret
        exact ⟨ret_bool (by rw [H.out]; simp), hB⟩
  · have hb0 : ((l.length : Int) != (m.length : Int)) = true := by rw [bne_iff_ne]; omega
    have HN := Lib.hid (show l ≠ m by rintro rfl; exact hlen rfl)
    clear hlen hca hcb
    go_enter Tryz.func50, Tryz.ntmps50
    go_upto_region 1 with fail
    obtain ⟨W1, hW1⟩ : ∃ v, v = World.alloc w (Obj.cells #[.slice xa l.length ca] 47) := ⟨_, rfl⟩
    have kW1 : Below w.heap.size w W1 := by rw [hW1]; exact below_new _ _
    have iW1 : Blk W1 (w.heap.size) 47 [.slice xa l.length ca] := by rw [hW1]; exact Blk.new _ _ _
    have sW1 : W1.heap.size = w.heap.size + 1 := by rw [hW1]; simp
    rw [← hW1]
    clear hW1
    obtain ⟨W2, hW2⟩ : ∃ v, v = World.alloc W1 (Obj.cells #[.slice xb m.length cb] 47) := ⟨_, rfl⟩
    have kW2 : Below W1.heap.size W1 W2 := by rw [hW2]; exact below_new _ _
    have iW2 : Blk W2 (w.heap.size + 1) 47 [.slice xb m.length cb] := by rw [hW2, ← sW1]; exact Blk.new _ _ _
    have sW2 : W2.heap.size = w.heap.size + 1 + 1 := by rw [hW2]; simp [sW1]
    rw [← hW2]
    clear hW2
    have hB := bthen kW1 kW2
    have a1 := (iW1.carry kW2).cell (j := 0) (v := .slice xa l.length ca) rfl
    have a2 := iW2.cell (j := 0) (v := .slice xb m.length cb) rfl
    clear iW1 iW2 kW1 kW2 sW1 sW2
    go_wp2
    go_ret
    exact ⟨ret_bool (by simp [HN.out]), hB⟩

/-- a list of pairs does not lie in a block that holds no integer: stores there leave it. -/
theorem Pairs.apart {w : World} {v u x : Value} {l : List (Int × Int)} {B j : Nat} {T : TypeId} (h : Pairs w v l) (hb : Blk w B T [u]) (hu : ∀ y : Int, u ≠ .int .i64 y) : Pairs (w.setCell ⟨B, j, none⟩ x) v l := by
  obtain ⟨a, c, hv, hc, hr⟩ := h
  refine ⟨a, c, hv, hc, fun h0 => ?_⟩
  obtain ⟨b, off, ha, hd⟩ := hr h0
  refine ⟨b, off, ha, fun k y hk => ?_⟩
  obtain ⟨c0, c1⟩ := hd k y hk
  have hne : b ≠ B := by
    rintro rfl
    have hq : w.cell? ⟨b, off + k * 2, none⟩ = ([u] : List Value)[off + k * 2]? := by simp [World.cell?, show w.heap[b]? = _ from hb]
    rw [c0] at hq
    rcases Nat.eq_zero_or_pos (off + k * 2) with e | e
    · rw [e] at hq; simp at hq; exact hu _ hq.symm
    · rw [List.getElem?_eq_none (by simp; omega)] at hq; simp at hq
  have key : ∀ q : Nat, (w.setCell ⟨B, j, none⟩ x).cell? ⟨b, q, none⟩ = w.cell? ⟨b, q, none⟩ := fun q =>
    World.cell?_of_block (Below.heap_setCell _ _ _ _ (show b ≠ B from hne))
  rw [key, key]
  exact ⟨c0, c1⟩

def tapP (ls : List (Int × Int)) (b tap : Int) : Int := firstE [braE ls b, withinE tap (-8) 8]
def tapX (ls : List (Int × Int)) (b tap : Int) : Int := bif tapP ls b tap == 0 then tapE (fltE (tapL ls b.toNat tap)) else tapP ls b tap
def tapZ (ls : List (Int × Int)) (b tap : Int) : List (Int × Int) := bif tapP ls b tap == 0 then lsIf (fltE (tapL ls b.toNat tap)) (tapL ls b.toNat tap) else []
theorem tapP_zero {ls : List (Int × Int)} {b tap : Int} (h : tapP ls b tap = 0) : fltE ls = 0 ∧ 0 ≤ b ∧ b < ls.length := by
  unfold tapP at h
  exact braE_zero (firstE_head h)
set_option maxRecDepth 100000 in
set_option maxHeartbeats 4000000 in
theorem Tapped_any (v : Value) (ls : List (Int × Int)) (b tap : Int) (w : World) (hv : Pairs w v ls) (hl : ls.length ≤ 1000000) :
    Calls Tryz.prog 48 #[.agg #[v], .int .i64 b, .int .i64 tap] w fun e w' => (∃ u, e = .returned (.tuple #[.agg #[u], .int .i64 (tapX ls b tap)]) ∧ Pairs w' u (tapZ ls b tap)) ∧ Below w.heap.size w w' := by
  obtain ⟨X, hX⟩ : ∃ X, X = tapX ls b tap := ⟨_, rfl⟩
  obtain ⟨Z, hZ⟩ : ∃ Z, Z = tapZ ls b tap := ⟨_, rfl⟩
  rw [← hX, ← hZ]
  have TB := Lib.hid (fun W hP => checkBranch_any v ls b W hP hl)
  have TW := Lib.hid (fun W => withinH_any tap (-8) 8 W)
  have TT := Lib.hid (fun (h0 : tapP ls b tap = 0) W hP => by
    obtain ⟨_, hb0, hb1⟩ := tapP_zero h0
    have := tapped_any v ls b.toNat tap W hP hl (by omega)
    rw [Int.toNat_of_nonneg hb0] at this
    exact this)
  have hml : (tapL ls b.toNat tap).length ≤ 1000000 := by rw [tapL, List.length_set]; exact hl
  rw [tapX] at hX
  rw [tapZ] at hZ
  generalize tapL ls b.toNat tap = R at TT hX hZ hml
  have TC := Lib.hid (fun u W hP => CheckFilter_any u R W hP hml)
  generalize fltE R = E at TC hX hZ
  have TF := Lib.hid (fun (u : Value) (W : World) (h : Ints W u [braE ls b, withinE tap (-8) 8]) => firstH_any u _ W (by simp [maxLen]) h)
  rw [show firstE [braE ls b, withinE tap (-8) 8] = tapP ls b tap from rfl] at TF
  generalize tapP ls b tap = F at TF TT hX hZ
  generalize braE ls b = e1 at TB TF
  generalize withinE tap (-8) 8 = e2 at TW TF
  have HV := Lib.hid hv
  have HX := Lib.hid hX
  have HZ := Lib.hid hZ
  obtain ⟨a, cp, rfl, _, _⟩ := id hv
  clear hv hX hZ hml
  go_enter Tryz.func48, Tryz.ntmps48
  go_upto_region 1 with fail
  obtain ⟨W1, hW1⟩ : ∃ v, v = World.alloc w (Obj.cells #[.slice a ls.length cp] 57) := ⟨_, rfl⟩
  have kW1 : Below w.heap.size w W1 := by rw [hW1]; exact below_new _ _
  have iW1 : Blk W1 (w.heap.size) 57 [.slice a ls.length cp] := by rw [hW1]; exact Blk.new _ _ _
  have sW1 : W1.heap.size = w.heap.size + 1 := by rw [hW1]; simp
  rw [← hW1]
  clear hW1
  obtain ⟨W2, hW2⟩ : ∃ v, v = World.alloc W1 (Obj.cells #[.slice none 0 0] 57) := ⟨_, rfl⟩
  have kW2 : Below W1.heap.size W1 W2 := by rw [hW2]; exact below_new _ _
  have iW2 : Blk W2 (w.heap.size + 1) 57 [.slice none 0 0] := by rw [hW2, ← sW1]; exact Blk.new _ _ _
  have sW2 : W2.heap.size = w.heap.size + 1 + 1 := by rw [hW2]; simp [sW1]
  rw [← hW2]
  clear hW2
  have i1 := iW1.carry kW2
  have i6 := iW2
  have hB := bthen kW1 kW2
  have a0 := i1.cell (j := 0) (v := .slice a ls.length cp) rfl
  clear iW1 iW2 kW1 kW2 sW1 sW2
  go_wp2_with fail
  refine (TB.out W2 (HV.out.carry hB)).mono ?_
  rintro e W3 ⟨rfl, hb⟩
  replace i1 := i1.carry hb
  replace i6 := i6.carry hb
  replace hB := bthen hB hb
  clear hb a0
  go_wp2_with fail
  refine (TW.out W3).mono ?_
  rintro e W3 ⟨rfl, rfl⟩
  go_wp2_with fail
  obtain ⟨W4, hW4⟩ : ∃ v, v = World.alloc W3 (Obj.cells #[.int .i64 e1, .int .i64 e2] 28) := ⟨_, rfl⟩
  have kW4 : Below W3.heap.size W3 W4 := by rw [hW4]; exact below_new _ _
  have iW4 : Blk W4 (W3.heap.size) 28 [.int .i64 e1, .int .i64 e2] := by rw [hW4]; exact Blk.new _ _ _
  have sW4 : W4.heap.size = W3.heap.size + 1 := by rw [hW4]; simp
  rw [← hW4]
  clear hW4
  refine (TF.out _ W4 (BlkI.ints (l := [e1, e2]) iW4 rfl)).mono ?_
  rintro e w' ⟨rfl, rfl⟩
  replace i1 := i1.carry kW4
  replace i6 := i6.carry kW4
  replace hB := bthen hB kW4
  have a0 := i1.cell (j := 0) (v := .slice a ls.length cp) rfl
  have z6 := i6.cell (j := 0) (v := .slice none 0 0) rfl
  have f6 := i6.frozen 0
  clear kW4 iW4 sW4
  by_cases hF : F = 0
  · subst hF
    have TT2 := Lib.hid (TT.out rfl)
    clear TT
    go_wp2_with fail
    refine (TT2.out W4 (HV.out.carry hB)).mono ?_
    rintro e W5 ⟨⟨u, rfl, hP⟩, hb⟩
    obtain ⟨ua, uc, rfl, _, _⟩ := id hP
    replace i6 := i6.carry hb
    replace hB := bthen hB hb
    have hP5 := Lib.hid hP
    clear hb a0 z6 f6 hP
    go_upto_region 5 with fail
    obtain ⟨W6, hW6⟩ : ∃ v, v = World.alloc W5 (Obj.cells #[.slice ua R.length uc] 57) := ⟨_, rfl⟩
    have kW6 : Below W5.heap.size W5 W6 := by rw [hW6]; exact below_new _ _
    have iW6 : Blk W6 (W5.heap.size) 57 [.slice ua R.length uc] := by rw [hW6]; exact Blk.new _ _ _
    have sW6 : W6.heap.size = W5.heap.size + 1 := by rw [hW6]; simp
    rw [← hW6]
    clear hW6
    replace i6 := i6.carry kW6
    replace hB := bthen hB kW6
    have hP6 := Lib.hid (hP5.out.carry kW6)
    have i9 := iW6
    have z9 := i9.cell (j := 0) (v := .slice ua R.length uc) rfl
    clear kW6 sW6 iW6 hP5
    go_wp2_with fail
    refine (TC.out _ W6 hP6.out).mono ?_
    rintro e W7 ⟨rfl, hb⟩
    replace i6 := i6.carry hb
    replace i9 := i9.carry hb
    replace hB := bthen hB hb
    have hP7 := Lib.hid (hP6.out.carry hb)
    clear hb z9 hP6
    have z9 := i9.cell (j := 0) (v := .slice ua R.length uc) rfl
    have z6 := i6.cell (j := 0) (v := .slice none 0 0) rfl
    have f6 := i6.frozen 0
    by_cases hE : E = 0
    · subst hE
      go_wp2_with fail
      have i10 := i6.set 0 (.slice ua R.length uc)
      have z0 := i10.cell (j := 0) (v := .slice ua R.length uc) rfl
      exact bodyPost_ret (v := .tuple #[.agg #[.slice ua R.length uc], .int .i64 0]) (by simp [results, Tryz.f48, go_sem, z0]) rfl ⟨⟨_, by rw [HX.out]; rfl, by rw [HZ.out]; exact hP7.out.apart i6 (fun y hy => by simp at hy)⟩, hB.setCell (by simp) _⟩
    · have z' : (E != 0) = true := by rw [bne_iff_ne]; exact hE
      have HE := Lib.hid (show (E == 0) = false by rw [beq_eq_false_iff_ne]; exact hE)
      go_wp2_with fail
      have i10 := i6.set 0 (.slice none 0 0)
      have z0 := i10.cell (j := 0) (v := .slice none 0 0) rfl
      exact bodyPost_ret (v := .tuple #[.agg #[.slice none 0 0], .int .i64 4]) (by simp [results, Tryz.f48, go_sem, z0]) rfl ⟨⟨_, by rw [HX.out, tapE, HE.out]; rfl, by rw [HZ.out, lsIf, HE.out]; exact Pairs.none' _⟩, hB.setCell (by simp) _⟩
  · have z' : (F != 0) = true := by rw [bne_iff_ne]; exact hF
    have HF := Lib.hid (show (F == 0) = false by rw [beq_eq_false_iff_ne]; exact hF)
    clear TT
    go_wp2_with fail
    have i10 := i6.set 0 (.slice none 0 0)
    have z0 := i10.cell (j := 0) (v := .slice none 0 0) rfl
    exact bodyPost_ret (v := .tuple #[.agg #[.slice none 0 0], .int .i64 F]) (by simp [results, Tryz.f48, go_sem, z0]) rfl ⟨⟨_, by rw [HX.out, HF.out]; rfl, by rw [HZ.out, HF.out]; exact Pairs.none' _⟩, hB.setCell (by simp) _⟩
end

end Go.Proofs.YtlohcnecehlljaaGreatDoor

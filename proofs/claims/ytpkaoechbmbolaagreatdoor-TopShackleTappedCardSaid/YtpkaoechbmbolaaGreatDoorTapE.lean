/- TopShackleTapped: the law's closure, and its fixed example. -/
import Derived.Test.YtpkaoechbmbolaaGreatDoorTapD
import Derived.Test.YtpkaoechbmbolaaGreatDoorHarK
namespace Go.Proofs.YtpkaoechbmbolaaGreatDoor
set_option linter.unusedSimpArgs false
set_option linter.unusedVariables false
open Go.RowKit

set_option maxRecDepth 100000 in
set_option maxHeartbeats 4000000 in
theorem given1_any (v : Value) (ls : List (Int × Int)) (B : Nat) (w : World) (hv : Pairs w v ls) (hBf : Blk w B 24 [v]) (hl : ls.length ≤ 1000000) :
    Calls Tryz.prog 9 #[.pointer (some ⟨B, 0, none⟩)] w fun e w' => (∃ u, e = .returned (.agg #[u]) ∧ Pairs w' u ls) ∧ Below w.heap.size w w' := by
  obtain ⟨i0, hi, hz0, hz1, hz2⟩ := info_parts Tryz.infoBranch
  obtain ⟨n, hn⟩ : ∃ n, n = ls.length := ⟨_, rfl⟩
  obtain ⟨a, cp, rfl, _, hcs0⟩ := id hv
  rw [← hn] at hcs0 hl hBf
  have hcs : ∀ k : Nat, k < n → ∃ b off x, a = some ⟨b, off, none⟩ ∧ ls[k]? = some x ∧ w.cell? ⟨b, off + k * 2, none⟩ = some (.int .i64 x.1) ∧ w.cell? ⟨b, off + k * 2 + 1, none⟩ = some (.int .i64 x.2) := fun k hk => by
    obtain ⟨b, off, rfl, hc⟩ := hcs0 (by omega)
    have e1 := hc k (ls[k]'(by omega)) (List.getElem?_eq_getElem (by omega))
    exact ⟨b, off, _, rfl, List.getElem?_eq_getElem (by omega), e1⟩
  have HC := Lib.hid hcs
  have HN := Lib.hid hn
  clear hv hcs0 hcs hn
  go_enter Tryz.func9, Tryz.ntmps9
  go_upto_region 2 with fail
  obtain ⟨W2, hW2⟩ : ∃ v, v = World.alloc w (Obj.cells #[.slice none 0 0] 34) := ⟨_, rfl⟩
  have kW2 : Below w.heap.size w W2 := by rw [hW2]; exact below_new _ _
  have iW2 : Blk W2 (w.heap.size) 34 [.slice none 0 0] := by rw [hW2]; exact Blk.new _ _ _
  have sW2 : W2.heap.size = w.heap.size + 1 := by rw [hW2]; simp
  rw [← hW2]
  clear hW2
  obtain ⟨W3, hW3⟩ : ∃ v, v = World.alloc W2 (Obj.cells #[.slice none 0 0] 34) := ⟨_, rfl⟩
  have kW3 : Below W2.heap.size W2 W3 := by rw [hW3]; exact below_new _ _
  have iW3 : Blk W3 (w.heap.size + 1) 34 [.slice none 0 0] := by rw [hW3, ← sW2]; exact Blk.new _ _ _
  have sW3 : W3.heap.size = w.heap.size + 1 + 1 := by rw [hW3]; simp [sW2]
  rw [← hW3]
  clear hW3
  have a0 := ((hBf.carry kW2).carry kW3).cell (j := 0) (v := .slice a n cp) rfl
  have i2 := iW2.carry kW3
  have i3 := iW3
  have hB := bthen kW2 kW3
  have hz : W3.heap.size = w.heap.size + 2 := by omega
  clear iW2 iW3 kW2 kW3 sW2 sW3 hBf
  have hB3 : Below W3.heap.size W3 W3 := Below.refl _ _
  have HB := Lib.hid hB
  have HI2 := Lib.hid i2
  go_wp2_with fail
  clear a0 hB i2
  go_loopw [8] (fun i wr => ∃ (k : Nat) (u : Value), k ≤ n ∧ i = .int .i64 k ∧ Blk wr (w.heap.size + 1) 34 [u] ∧ wr.ownsRow W3.heap.size 37 2 u k ((flat2 (ls.take k)).map (Value.int .i64)) ∧ Blk wr (w.heap.size) 34 [.slice none 0 0] ∧ Below w.heap.size w wr) (fun i _ => n - (intOf i).toNat)
  case atStart => exact ⟨0, _, by omega, rfl, i3, World.ownsRow_nil _ _ _ _, HI2.out, HB.out⟩
  case round =>
    clear i3
    obtain ⟨k, u, hk, rfl, i3, hown, i2, hB⟩ := hrel
    have hsz : W3.heap.size ≤ wr.heap.size := by have := Blk.lt i3; omega
    by_cases hlt : k < n
    · obtain ⟨b, off, x, rfl, hx, c0, c1⟩ := HC.out k hlt
      have c0 := cellb c0 hB
      have c1 := cellb c1 hB
      have hts := flat2_take_succ ls k x hx
      have HTS := Lib.hid hts
      obtain ⟨x0, x1⟩ := x
      simp only at c0 c1
      have d1 : (k : Int) < (n : Int) := by omega
      clear hx hts
      go_upto_region 5 with fail
      obtain ⟨W5, hW5⟩ : ∃ v, v = World.alloc wr (Obj.cells #[.int .i64 x0, .int .i64 x1] 36) := ⟨_, rfl⟩
      have kW5 : Below wr.heap.size wr W5 := by rw [hW5]; exact below_new _ _
      have iW5 : Blk W5 (wr.heap.size) 36 [.int .i64 x0, .int .i64 x1] := by rw [hW5]; exact Blk.new _ _ _
      have sW5 : W5.heap.size = wr.heap.size + 1 := by rw [hW5]; simp
      rw [← hW5]
      clear hW5
      have b0 := iW5.cell (j := 0) (v := .int .i64 x0) rfl
      have b1 := iW5.cell (j := 1) (v := .int .i64 x1) rfl
      replace i3 := i3.carry kW5
      replace i2 := i2.carry kW5
      replace hown := own_below hown kW5
      replace hB := bthen hB kW5
      have hs5 := kW5.size
      have a3 := i3.cell (j := 0) (v := u) rfl
      have f3 := i3.frozen 0
      clear c0 c1 kW5 iW5 sW5
      go_wp2_with (at_builtin; refine wpList_append_own _ rfl _ _ 32 rfl W3.heap.size 37 i0 (.agg #[.int .i64 0, .int .i64 0]) 2 16 Tryz.undBranches hi hz0 hz1 hz2 rfl (by decide) _ _ _ rfl (hown.alloc _) ⟨W5.heap.size, 0, none⟩ 1 1 [.int .i64 x0, .int .i64 x1] rfl rfl (fun j u hj => (Blk.new W5 37 [.int .i64 x0, .int .i64 x1]).news j u hj) (by simp [Value.oneCell']) (by unfold maxLen; omega) (by omega) (by simp; omega) ?_; intro v' w6 hown6 hgrow6 _; obtain ⟨g9, gc9, rfl⟩ := ownsRow_succ2 hown6; have j3 := Blk.own_kept (i3.carry (below_new W5 (.cells #[.int .i64 x0, .int .i64 x1] 37))) (hown.alloc _) (by decide) hgrow6; have j2 := Blk.own_kept (i2.carry (below_new W5 (.cells #[.int .i64 x0, .int .i64 x1] 37))) (hown.alloc _) (by decide) hgrow6; have hB6 := (bthen hB (below_new W5 (.cells #[.int .i64 x0, .int .i64 x1] 37))).grown hgrow6 (by simp; omega) (fun k' hk' => by have := (World.ownsRow.lt hown k' hk').1; omega); have a3 := j3.cell (j := 0) (v := u) rfl; have f3 := j3.frozen 0)
      refine ⟨⟨k + 1, _, by omega, by go_num, j3.set 0 (.slice (some ⟨g9, 0, none⟩) (k + 1) gc9), ?_, j2.other (by omega) _, hB6.setCell (by simp) _⟩, ?_⟩
      · rw [HTS.out]
        exact own_setCell hown6 (by omega)
      · simp [intOf]; omega
    · obtain rfl : k = n := by omega
      obtain ⟨ua, uc, rfl⟩ := ownsRow_slice hown
      have hP2 : Pairs (wr.setCell ⟨w.heap.size, 0, none⟩ (.slice ua k uc)) (.slice ua k uc) ls := by
        have h9 := own_setCell (x := .slice ua k uc) (B := w.heap.size) (j := 0) hown (by omega)
        rw [List.take_of_length_le (by rw [HN.out]; exact Nat.le_refl _)] at h9
        exact Pairs.of_own (l := ls) (base := W3.heap.size) (e := 37) (by rw [← HN.out]; exact h9)
      have a3 := i3.cell (j := 0) (v := .slice ua k uc) rfl
      have a2 := i2.cell (j := 0) (v := .slice none 0 0) rfl
      have f2 := i2.frozen 0
      have hl2 : w.heap.size < wr.heap.size := Blk.lt i2
      have HP2 := Lib.hid hP2
      clear hown hP2
      go_wp2_with fail
      have i9 := i2.set 0 (.slice ua k uc)
      have z0 := i9.cell (j := 0) (v := .slice ua k uc) rfl
      exact bodyPost_ret (v := .agg #[.slice ua k uc]) (by simp [results, Tryz.f9, go_sem, z0]) rfl ⟨⟨_, rfl, HP2.out⟩, hB.setCell (by simp) _⟩
end Go.Proofs.YtpkaoechbmbolaaGreatDoor

/- The reference of chapter 7: Bumps. -/
import Derived.Test.YtgdkomgfalkihaaGreatDoorVdB
namespace Go.Proofs.YtgdkomgfalkihaaGreatDoor
section
set_option linter.unusedSimpArgs false
set_option linter.unusedVariables false
open Go.RowKit
theorem ints_len {l : List P2} {k : Nat} {x : P2} (hx : l[k]? = some x) : l[k]?.getD (0, 0) = x := by rw [hx]; rfl
end
section
set_option linter.unusedSimpArgs false
set_option linter.unusedVariables false
open Go.RowKit
theorem bit_if {x y : Int} (hx : 0 ≤ x ∧ x ≤ 4095) (hy : 0 ≤ y ∧ y ≤ 4095) (j : Nat) : bitV (bits .xor .i64 x y) j = if (!(hasR x j == hasR y j)) = true then 1 else 0 := bitV_xor hx hy j
set_option maxRecDepth 100000 in
set_option maxHeartbeats 4000000 in
theorem SwitchingsR_any (v : Value) (l : List P2) (w : World) (hl : l.length ≤ 1000000) (hok : TrOk l) (hv : Prs w v l) :
 Calls Tryz.prog 113 #[v] w fun r w' => r = .returned (.agg (ia (swL l))) ∧ Below w.heap.size w w' := by
 have HV := Lib.hid hv
 have HOK := Lib.hid hok
 obtain ⟨a, cp, rfl, -⟩ := hv.slice
 obtain ⟨N, hN⟩ : ∃ N, N = l.length := ⟨_, rfl⟩
 rw [← hN] at HV hl ⊢
 obtain ⟨M, hM⟩ : ∃ M, M = N - 1 := ⟨_, rfl⟩
 have hbl : swR l M 0 = swL l := by rw [hM, hN]; exact swR_last l
 have HBL := Lib.hid hbl
 have HN := Lib.hid hN
 have HM := Lib.hid hM
 have hMN : M ≤ N := by omega
 clear hN hv hok hbl hM
 go_enter Tryz.func113, Tryz.ntmps113
 go_upto_region 2 with fail
 obtain ⟨W1, hW1⟩ : ∃ v, v = World.alloc w (Obj.cells #[.int .i64 0, .int .i64 0, .int .i64 0, .int .i64 0, .int .i64 0, .int .i64 0, .int .i64 0, .int .i64 0, .int .i64 0, .int .i64 0, .int .i64 0, .int .i64 0] 83) := ⟨_, rfl⟩
 have kW1 : Below w.heap.size w W1 := by rw [hW1]; exact below_new _ _
 have iW1 : Blk W1 (w.heap.size) 83 [.int .i64 0, .int .i64 0, .int .i64 0, .int .i64 0, .int .i64 0, .int .i64 0, .int .i64 0, .int .i64 0, .int .i64 0, .int .i64 0, .int .i64 0, .int .i64 0] := by rw [hW1]; exact Blk.new _ _ _
 have sW1 : W1.heap.size = w.heap.size + 1 := by rw [hW1]; simp
 rw [← hW1]
 clear hW1
 obtain ⟨W2, hW2⟩ : ∃ v, v = World.alloc W1 (Obj.cells #[.int .i64 0, .int .i64 0, .int .i64 0, .int .i64 0, .int .i64 0, .int .i64 0, .int .i64 0, .int .i64 0, .int .i64 0, .int .i64 0, .int .i64 0, .int .i64 0] 83) := ⟨_, rfl⟩
 have kW2 : Below W1.heap.size W1 W2 := by rw [hW2]; exact below_new _ _
 have iW2 : Blk W2 (w.heap.size + 1) 83 [.int .i64 0, .int .i64 0, .int .i64 0, .int .i64 0, .int .i64 0, .int .i64 0, .int .i64 0, .int .i64 0, .int .i64 0, .int .i64 0, .int .i64 0, .int .i64 0] := by rw [hW2, ← sW1]; exact Blk.new _ _ _
 have sW2 : W2.heap.size = w.heap.size + 1 + 1 := by rw [hW2]; simp [sW1]
 rw [← hW2]
 clear hW2
 have i2 : BlkI W2 w.heap.size 83 (List.replicate 12 0) := iW1.carry kW2
 have i3 : BlkI W2 (w.heap.size + 1) 83 (List.replicate 12 0) := iW2
 have hB : Below w.heap.size w W2 := bthen kW1 kW2
 rw [← swR_zero l] at i3
 clear iW1 iW2 kW1 kW2 sW1 sW2
 go_wp2_with fail
 go_loopw [4] (fun i wx => ∃ k : Nat, k ≤ M ∧ i = .int .i64 ((k : Int) + 1) ∧ BlkI wx (w.heap.size + 1) 83 (swR l k 0) ∧ BlkI wx w.heap.size 83 (List.replicate 12 0) ∧ Below w.heap.size w wx) (fun i _ => M + 1 - (intOf i).toNat)
 case atStart => exact ⟨0, by omega, rfl, i3, i2, hB⟩
 case round =>
  clear i3 i2 hB
  obtain ⟨k, hk, rfl, i3, i2, hbel⟩ := hrel
  have hMN2 := HM.out
  by_cases hlt : k < M
  ·have hdk : (k : Int) + 1 < (N : Int) := by omega
   obtain ⟨b, off, cp', he, -⟩ := HV.out.head (by rw [← HN.out]; omega)
   simp only [Value.slice.injEq] at he
   obtain ⟨rfl, -, rfl⟩ := he
   obtain ⟨x, hx⟩ : ∃ x, l[k + 1]? = some x := ⟨_, List.getElem?_eq_getElem (by rw [← HN.out]; omega)⟩
   obtain ⟨y, hy⟩ : ∃ y, l[k]? = some y := ⟨_, List.getElem?_eq_getElem (by rw [← HN.out]; omega)⟩
   have HCS := Lib.hid (fun W (h : Below w.heap.size w W) => by
    obtain ⟨b', off', cp', he', hcs⟩ := (HV.out.carry h).head (by rw [← HN.out]; omega)
    simp only [Value.slice.injEq, Option.some.injEq, Addr.mk.injEq] at he'
    obtain ⟨⟨rfl, rfl, -⟩, -, -⟩ := he'
    obtain ⟨c0, c1⟩ := rw2 (hcs (k + 1) x hx) (show pV x = [.int .i64 x.1, .int .i64 x.2] from rfl)
    obtain ⟨q0, q1⟩ := rw2 (hcs k y hy) (show pV y = [.int .i64 y.1, .int .i64 y.2] from rfl)
    exact (⟨c1, q1⟩ : W.cell? ⟨b, off + (k + 1) * 2 + 1, none⟩ = some (.int .i64 x.2) ∧ W.cell? ⟨b, off + k * 2 + 1, none⟩ = some (.int .i64 y.2)))
   have hx9 := (HOK.out.at (k + 1)).2
   have hy9 := (HOK.out.at k).2
   rw [ints_len hx] at hx9
   rw [ints_len hy] at hy9
   have HBT := Lib.hid (fun j => show bitV (chgV l k) j = if (!(hasR x.2 j == hasR y.2 j)) = true then 1 else 0 by
    unfold chgV
    rw [ints_len hx, ints_len hy]
    exact bit_if hx9 hy9 j)
   obtain ⟨x0, x1⟩ := x
   obtain ⟨y0, y1⟩ := y
   dsimp only at HCS hx9 hy9 HBT
   have HX := Lib.hid hx9
   have HY := Lib.hid hy9
   have r1 : IntKind.i64.wrap ((k : Int) + 1 - 1) = (k : Int) := by rw [show (k : Int) + 1 - 1 = k by omega]; exact IntWalk.i64_in _ (by omega)
   have r2 : IntKind.i64.wrap (k : Int) = (k : Int) := IntWalk.i64_in _ (by omega)
   have r3 : max 0 (k : Int) = k := by omega
   have r4 : (k : Int) < (N : Int) := by omega
   have r5 : (0 : Int) ≤ (k : Int) + 1 := by omega
   have r6 : (0 : Int) ≤ (k : Int) := by omega
   have r7 : ((k : Int) + 1).toNat = k + 1 := by omega
   clear hx hy hx9 hy9 hMN2
   go_wp2_with fail
   go_loopw [5] (fun i wx => ∃ j : Nat, j ≤ 12 ∧ i = .int .i64 j ∧ BlkI wx (w.heap.size + 1) 83 (swR l k j) ∧ BlkI wx w.heap.size 83 (List.replicate 12 0) ∧ Below w.heap.size w wx) (fun i _ => 12 - (intOf i).toNat)
   case atStart => exact ⟨0, by omega, rfl, i3, i2, hbel⟩
   case round =>
    clear i3 i2 hbel
    obtain ⟨j, hj, rfl, i3, i2, hbel⟩ := hrel
    by_cases hj2 : j < 12
    ·obtain ⟨c1, q1⟩ := HCS.out _ hbel
     have T0 := Lib.hid (fun W => Has_any x1 j W (by have := HX.out; omega) (by omega))
     have T1 := Lib.hid (fun W => Has_any y1 j W (by have := HY.out; omega) (by omega))
     have hbt := HBT.out j
     have hat := swR_at l k j hj2
     have hset := swR_set l k j
     have hrg := swS_rng l j k
     rw [hbt] at hset
     have c3 : wr.cell? ⟨w.heap.size + 1, j, none⟩ = some (.int .i64 (swS l j k)) := by
      have := BlkI.cell i3 (j := j) (by rw [swR_len]; exact hj2)
      rw [hat] at this; exact this
     obtain ⟨S, hS⟩ : ∃ S, S = swS l j k := ⟨_, rfl⟩
     obtain ⟨B0, hB0⟩ : ∃ b, b = hasR x1 j := ⟨_, rfl⟩
     obtain ⟨B1, hB1⟩ : ∃ b, b = hasR y1 j := ⟨_, rfl⟩
     rw [← hS] at c3 hset hrg
     rw [← hB0, ← hB1] at hset
     rw [← hB0] at T0
     rw [← hB1] at T1
     obtain ⟨c, hc⟩ : ∃ c, (!(B0 == B1)) = c := ⟨_, rfl⟩
     rw [hc] at hset
     have e6 : (j : Int) < 12 := by omega
     have hB1' : w.heap.size ≤ w.heap.size + 1 := by omega
     have hB2' : w.heap.size ≠ w.heap.size + 1 := by omega
     clear hB0 hB1 hbt hat hS
     cases c with
     | true =>
       rw [if_pos rfl] at hset
       obtain ⟨y, hy⟩ : ∃ y, y = S + 1 := ⟨_, rfl⟩
       have q2 : IntKind.i64.wrap (S + 1) = y := by rw [hy]; exact IntWalk.i64_in _ (by omega)
       rw [← hy] at hset
       have HSET := Lib.hid hset
       clear hset hy hrg
       go_upto_region 8 with fail
       refine wp_region_E 99 (by kernel_rfl) ?_
       obtain ⟨wz, hwz⟩ : ∃ v, v = wr.drew := ⟨_, rfl⟩
       rw [← hwz]
       have hlz : Below wr.heap.size wr wz := by rw [hwz]; exact (Below.refl _ _).drew
       have hbz := bthen hbel hlz
       have c1 := cellb c1 hlz
       have q1 := cellb q1 hlz
       have c3 := cellb c3 hlz
       have i3 := i3.carry hlz
       have i2 := i2.carry hlz
       clear hwz hlz
       refine zT 0 ⟨some 16, .move (.tmp 0), 22, "ref.go:351", #[], none⟩ (v := ?_) rfl (Or.inl ⟨by rfl, ?_⟩) ?_
       rotate_left
       ·(intro w hE; have c1 := cellb c1 hE; have q1 := cellb q1 hE; have c3 := cellb c3 hE; (try dsimp only); go_simp); (try with_reducible rfl)
       try simp only [Act.put, zS]
       refine zT 1 ⟨some 17, .move (.tmp 4), 3, "ref.go:351", #[], none⟩ (v := ?_) rfl (Or.inl ⟨by rfl, ?_⟩) ?_
       rotate_left
       ·(intro w hE; have c1 := cellb c1 hE; have q1 := cellb q1 hE; have c3 := cellb c3 hE; (try dsimp only); go_simp); (try with_reducible rfl)
       try simp only [Act.put, zS]
       refine zT 2 ⟨some 18, .indexAddr 22 (.tmp 16) (.tmp 17), 0, "ref.go:351", #[⟨0, .data⟩, ⟨1, .data⟩], none⟩ (v := ?_) rfl (Or.inl ⟨by rfl, ?_⟩) ?_
       rotate_left
       ·(intro w hE; have c1 := cellb c1 hE; have q1 := cellb q1 hE; have c3 := cellb c3 hE; (try dsimp only); go_simp); (try with_reducible rfl)
       try simp only [Act.put, zS]
       refine zT 3 ⟨some 19, .fieldAddr 119 (.tmp 18) 1, 0, "ref.go:351", #[⟨2, .data⟩], none⟩ (v := ?_) rfl (Or.inl ⟨by rfl, ?_⟩) ?_
       rotate_left
       ·(intro w hE; have c1 := cellb c1 hE; have q1 := cellb q1 hE; have c3 := cellb c3 hE; (try dsimp only); go_simp); (try with_reducible rfl)
       try simp only [Act.put, zS]
       refine zT 4 ⟨some 20, .load 3 (.tmp 19), 3, "ref.go:351", #[⟨3, .data⟩], none⟩ (v := ?_) rfl (Or.inl ⟨by rfl, ?_⟩) ?_
       rotate_left
       ·(intro w hE; have c1 := cellb c1 hE; have q1 := cellb q1 hE; have c3 := cellb c3 hE; (try dsimp only); go_simp); (try with_reducible rfl)
       try simp only [Act.put, zS]
       refine zT 5 ⟨some 21, .move (.tmp 5), 3, "ref.go:351", #[], none⟩ (v := ?_) rfl (Or.inl ⟨by rfl, ?_⟩) ?_
       rotate_left
       ·(intro w hE; have c1 := cellb c1 hE; have q1 := cellb q1 hE; have c3 := cellb c3 hE; (try dsimp only); go_simp); (try with_reducible rfl)
       try simp only [Act.put, zS]
       refine zT 7 ⟨some 23, .move (.tmp 0), 22, "ref.go:351", #[], none⟩ (v := ?_) rfl (Or.inl ⟨by rfl, ?_⟩) ?_
       rotate_left
       ·(intro w hE; have c1 := cellb c1 hE; have q1 := cellb q1 hE; have c3 := cellb c3 hE; (try dsimp only); go_simp); (try with_reducible rfl)
       try simp only [Act.put, zS]
       refine zT 8 ⟨some 24, .move (.tmp 4), 3, "ref.go:351", #[], none⟩ (v := ?_) rfl (Or.inl ⟨by rfl, ?_⟩) ?_
       rotate_left
       ·(intro w hE; have c1 := cellb c1 hE; have q1 := cellb q1 hE; have c3 := cellb c3 hE; (try dsimp only); go_simp); (try with_reducible rfl)
       try simp only [Act.put, zS]
       refine zT 9 ⟨some 25, .binOp .sub 3 (.tmp 24) (.const (.int .i64 1)) 3, 3, "ref.go:351", #[⟨8, .data⟩], none⟩ (v := ?_) rfl (Or.inl ⟨by rfl, ?_⟩) ?_
       rotate_left
       ·(intro w hE; have c1 := cellb c1 hE; have q1 := cellb q1 hE; have c3 := cellb c3 hE; (try dsimp only); go_simp); (try with_reducible rfl)
       try simp only [Act.put, zS]
       refine zT 10 ⟨some 26, .indexAddr 22 (.tmp 23) (.tmp 25), 0, "ref.go:351", #[⟨7, .data⟩, ⟨9, .data⟩], none⟩ (v := ?_) rfl (Or.inl ⟨by rfl, ?_⟩) ?_
       rotate_left
       ·(intro w hE; have c1 := cellb c1 hE; have q1 := cellb q1 hE; have c3 := cellb c3 hE; (try dsimp only); go_simp); (try with_reducible rfl)
       try simp only [Act.put, zS]
       refine zT 11 ⟨some 27, .fieldAddr 119 (.tmp 26) 1, 0, "ref.go:351", #[⟨10, .data⟩], none⟩ (v := ?_) rfl (Or.inl ⟨by rfl, ?_⟩) ?_
       rotate_left
       ·(intro w hE; have c1 := cellb c1 hE; have q1 := cellb q1 hE; have c3 := cellb c3 hE; (try dsimp only); go_simp); (try with_reducible rfl)
       try simp only [Act.put, zS]
       refine zT 12 ⟨some 28, .load 3 (.tmp 27), 3, "ref.go:351", #[⟨11, .data⟩], none⟩ (v := ?_) rfl (Or.inl ⟨by rfl, ?_⟩) ?_
       rotate_left
       ·(intro w hE; have c1 := cellb c1 hE; have q1 := cellb q1 hE; have c3 := cellb c3 hE; (try dsimp only); go_simp); (try with_reducible rfl)
       try simp only [Act.put, zS]
       refine zT 13 ⟨some 29, .move (.tmp 5), 3, "ref.go:351", #[], none⟩ (v := ?_) rfl (Or.inl ⟨by rfl, ?_⟩) ?_
       rotate_left
       ·(intro w hE; have c1 := cellb c1 hE; have q1 := cellb q1 hE; have c3 := cellb c3 hE; (try dsimp only); go_simp); (try with_reducible rfl)
       try simp only [Act.put, zS]
       refine zC 6 ⟨some 22, .call ⟨.value (.func 116), #[.tmp 20, .tmp 21], #[3, 3]⟩, 4, "ref.go:351", #[⟨4, .data⟩, ⟨5, .data⟩], none⟩ (fun w hE => ofPure (T0.out w)) rfl (by rfl) (fun w hE => by (try dsimp only); go_simp) ?_
       try simp only [Act.put, zS]
       refine zC 14 ⟨some 30, .call ⟨.value (.func 116), #[.tmp 28, .tmp 29], #[3, 3]⟩, 4, "ref.go:351", #[⟨12, .data⟩, ⟨13, .data⟩, ⟨6, .chain⟩], none⟩ (fun w hE => ofPure (T1.out w)) rfl (by rfl) (fun w hE => by (try dsimp only); go_simp) ?_
       try simp only [Act.put, zS]
       refine zT 15 ⟨some 31, .binOp .neq 4 (.tmp 22) (.tmp 30) 4, 4, "ref.go:351", #[⟨6, .data⟩, ⟨14, .data⟩], none⟩ (v := ?_) rfl (Or.inl ⟨by rfl, ?_⟩) ?_
       rotate_left
       ·(intro w hE; have c1 := cellb c1 hE; have q1 := cellb q1 hE; have c3 := cellb c3 hE; (try dsimp only); go_simp); (try with_reducible rfl)
       try simp only [Act.put, zS]
       refine wpAnyE_done (by kernel_rfl) (fun wy1 hE => ?_) _
       have hbz1 := bthen hbz hE
       have c1 := cellb c1 hE
       have q1 := cellb q1 hE
       have c3 := cellb c3 hE
       have i3 := i3.carry hE
       have i2 := i2.carry hE
       clear hE
       have hbel := hbz1
       obtain ⟨W9, hW9⟩ : ∃ v, v = wy1 := ⟨_, rfl⟩
       rw [← hW9] at hbel i3 i2 c3 ⊢
       clear hW9
       rename_i W9
       have f3 := Blk.frozen i3 j
       clear c1 q1 T0 T1
       have i3' := BlkI.set i3 j y
       have i2' := Blk.other i2 hB2' (j := j) (.int .i64 y)
       have hbel' := hbel.setCell (p := ⟨w.heap.size + 1, j, none⟩) hB1' (.int .i64 y)
       rw [HSET.out] at i3'
       go_wp2
       go_roundw
       case rel => exact ⟨j + 1, by omega, by go_num, i3', i2', hbel'⟩
       case measure => simp [intOf]; omega
     | false =>
       rw [if_neg (by decide), Int.add_zero] at hset
       have hsame : swR l k (j + 1) = swR l k j := by
        rw [← hset]
        apply List.ext_getElem?
        intro i
        rw [List.getElem?_set]
        split
        ·rename_i h; subst h
         rw [if_pos (by rw [swR_len]; exact hj2)]
         have := swR_at l k j hj2
         have h3 := BlkI.cell i3 (j := j) (by rw [swR_len]; exact hj2)
         rw [c3, this] at h3
         simp only [Option.some.injEq, Value.int.injEq, Option.getD_some, true_and] at h3
         rw [this, h3]
        ·rfl
       have HSAME := Lib.hid hsame
       clear hset hsame hrg
       go_upto_region 8 with fail
       refine wp_region_E 99 (by kernel_rfl) ?_
       obtain ⟨wz, hwz⟩ : ∃ v, v = wr.drew := ⟨_, rfl⟩
       rw [← hwz]
       have hlz : Below wr.heap.size wr wz := by rw [hwz]; exact (Below.refl _ _).drew
       have hbz := bthen hbel hlz
       have c1 := cellb c1 hlz
       have q1 := cellb q1 hlz
       have i3 := i3.carry hlz
       have i2 := i2.carry hlz
       clear hwz hlz
       refine zT 0 ⟨some 16, .move (.tmp 0), 22, "ref.go:351", #[], none⟩ (v := ?_) rfl (Or.inl ⟨by rfl, ?_⟩) ?_
       rotate_left
       ·(intro w hE; have c1 := cellb c1 hE; have q1 := cellb q1 hE; (try dsimp only); go_simp); (try with_reducible rfl)
       try simp only [Act.put, zS]
       refine zT 1 ⟨some 17, .move (.tmp 4), 3, "ref.go:351", #[], none⟩ (v := ?_) rfl (Or.inl ⟨by rfl, ?_⟩) ?_
       rotate_left
       ·(intro w hE; have c1 := cellb c1 hE; have q1 := cellb q1 hE; (try dsimp only); go_simp); (try with_reducible rfl)
       try simp only [Act.put, zS]
       refine zT 2 ⟨some 18, .indexAddr 22 (.tmp 16) (.tmp 17), 0, "ref.go:351", #[⟨0, .data⟩, ⟨1, .data⟩], none⟩ (v := ?_) rfl (Or.inl ⟨by rfl, ?_⟩) ?_
       rotate_left
       ·(intro w hE; have c1 := cellb c1 hE; have q1 := cellb q1 hE; (try dsimp only); go_simp); (try with_reducible rfl)
       try simp only [Act.put, zS]
       refine zT 3 ⟨some 19, .fieldAddr 119 (.tmp 18) 1, 0, "ref.go:351", #[⟨2, .data⟩], none⟩ (v := ?_) rfl (Or.inl ⟨by rfl, ?_⟩) ?_
       rotate_left
       ·(intro w hE; have c1 := cellb c1 hE; have q1 := cellb q1 hE; (try dsimp only); go_simp); (try with_reducible rfl)
       try simp only [Act.put, zS]
       refine zT 4 ⟨some 20, .load 3 (.tmp 19), 3, "ref.go:351", #[⟨3, .data⟩], none⟩ (v := ?_) rfl (Or.inl ⟨by rfl, ?_⟩) ?_
       rotate_left
       ·(intro w hE; have c1 := cellb c1 hE; have q1 := cellb q1 hE; (try dsimp only); go_simp); (try with_reducible rfl)
       try simp only [Act.put, zS]
       refine zT 5 ⟨some 21, .move (.tmp 5), 3, "ref.go:351", #[], none⟩ (v := ?_) rfl (Or.inl ⟨by rfl, ?_⟩) ?_
       rotate_left
       ·(intro w hE; have c1 := cellb c1 hE; have q1 := cellb q1 hE; (try dsimp only); go_simp); (try with_reducible rfl)
       try simp only [Act.put, zS]
       refine zT 7 ⟨some 23, .move (.tmp 0), 22, "ref.go:351", #[], none⟩ (v := ?_) rfl (Or.inl ⟨by rfl, ?_⟩) ?_
       rotate_left
       ·(intro w hE; have c1 := cellb c1 hE; have q1 := cellb q1 hE; (try dsimp only); go_simp); (try with_reducible rfl)
       try simp only [Act.put, zS]
       refine zT 8 ⟨some 24, .move (.tmp 4), 3, "ref.go:351", #[], none⟩ (v := ?_) rfl (Or.inl ⟨by rfl, ?_⟩) ?_
       rotate_left
       ·(intro w hE; have c1 := cellb c1 hE; have q1 := cellb q1 hE; (try dsimp only); go_simp); (try with_reducible rfl)
       try simp only [Act.put, zS]
       refine zT 9 ⟨some 25, .binOp .sub 3 (.tmp 24) (.const (.int .i64 1)) 3, 3, "ref.go:351", #[⟨8, .data⟩], none⟩ (v := ?_) rfl (Or.inl ⟨by rfl, ?_⟩) ?_
       rotate_left
       ·(intro w hE; have c1 := cellb c1 hE; have q1 := cellb q1 hE; (try dsimp only); go_simp); (try with_reducible rfl)
       try simp only [Act.put, zS]
       refine zT 10 ⟨some 26, .indexAddr 22 (.tmp 23) (.tmp 25), 0, "ref.go:351", #[⟨7, .data⟩, ⟨9, .data⟩], none⟩ (v := ?_) rfl (Or.inl ⟨by rfl, ?_⟩) ?_
       rotate_left
       ·(intro w hE; have c1 := cellb c1 hE; have q1 := cellb q1 hE; (try dsimp only); go_simp); (try with_reducible rfl)
       try simp only [Act.put, zS]
       refine zT 11 ⟨some 27, .fieldAddr 119 (.tmp 26) 1, 0, "ref.go:351", #[⟨10, .data⟩], none⟩ (v := ?_) rfl (Or.inl ⟨by rfl, ?_⟩) ?_
       rotate_left
       ·(intro w hE; have c1 := cellb c1 hE; have q1 := cellb q1 hE; (try dsimp only); go_simp); (try with_reducible rfl)
       try simp only [Act.put, zS]
       refine zT 12 ⟨some 28, .load 3 (.tmp 27), 3, "ref.go:351", #[⟨11, .data⟩], none⟩ (v := ?_) rfl (Or.inl ⟨by rfl, ?_⟩) ?_
       rotate_left
       ·(intro w hE; have c1 := cellb c1 hE; have q1 := cellb q1 hE; (try dsimp only); go_simp); (try with_reducible rfl)
       try simp only [Act.put, zS]
       refine zT 13 ⟨some 29, .move (.tmp 5), 3, "ref.go:351", #[], none⟩ (v := ?_) rfl (Or.inl ⟨by rfl, ?_⟩) ?_
       rotate_left
       ·(intro w hE; have c1 := cellb c1 hE; have q1 := cellb q1 hE; (try dsimp only); go_simp); (try with_reducible rfl)
       try simp only [Act.put, zS]
       refine zC 6 ⟨some 22, .call ⟨.value (.func 116), #[.tmp 20, .tmp 21], #[3, 3]⟩, 4, "ref.go:351", #[⟨4, .data⟩, ⟨5, .data⟩], none⟩ (fun w hE => ofPure (T0.out w)) rfl (by rfl) (fun w hE => by (try dsimp only); go_simp) ?_
       try simp only [Act.put, zS]
       refine zC 14 ⟨some 30, .call ⟨.value (.func 116), #[.tmp 28, .tmp 29], #[3, 3]⟩, 4, "ref.go:351", #[⟨12, .data⟩, ⟨13, .data⟩, ⟨6, .chain⟩], none⟩ (fun w hE => ofPure (T1.out w)) rfl (by rfl) (fun w hE => by (try dsimp only); go_simp) ?_
       try simp only [Act.put, zS]
       refine zT 15 ⟨some 31, .binOp .neq 4 (.tmp 22) (.tmp 30) 4, 4, "ref.go:351", #[⟨6, .data⟩, ⟨14, .data⟩], none⟩ (v := ?_) rfl (Or.inl ⟨by rfl, ?_⟩) ?_
       rotate_left
       ·(intro w hE; have c1 := cellb c1 hE; have q1 := cellb q1 hE; (try dsimp only); go_simp); (try with_reducible rfl)
       try simp only [Act.put, zS]
       refine wpAnyE_done (by kernel_rfl) (fun wy1 hE => ?_) _
       have hbz1 := bthen hbz hE
       have c1 := cellb c1 hE
       have q1 := cellb q1 hE
       have i3 := i3.carry hE
       have i2 := i2.carry hE
       clear hE
       have hbel := hbz1
       obtain ⟨W9, hW9⟩ : ∃ v, v = wy1 := ⟨_, rfl⟩
       rw [← hW9] at hbel i3 i2 ⊢
       clear hW9
       rw [← HSAME.out] at i3
       clear c1 q1 T0 T1 c3
       go_wp2
       go_roundw
       case rel => exact ⟨j + 1, by omega, by go_num, i3, i2, hbel⟩
       case measure => simp [intOf]; omega
    ·obtain rfl : j = 12 := by omega
     rw [swR_end] at i3
     go_wp2
     go_roundw
     case rel => exact ⟨k + 1, by omega, by go_num, i3, i2, hbel⟩
     case measure => simp [intOf]; omega
  ·have hkM : k = M := by omega
   have e6 : ¬ (k : Int) + 1 < (N : Int) := by omega
   rw [hkM, HBL.out] at i3
   clear hkM hlt hMN2
   have hld := load12 (show (swL l).length = 12 from upto_length _ _) i3
   have hlen : (List.replicate 12 (0 : Int)).length = (swL l).length := by rw [show (swL l).length = 12 from upto_length _ _]; rfl
   have hinf : (Tryz.prog.info? 83).map (·.size) = some (swL l).length := by rw [show (swL l).length = 12 from upto_length _ _]; exact Tryz.infoA12
   have hr2 : BlkI (wr.setRow w.heap.size (ia (swL l))) w.heap.size 83 (swL l) := BlkI.setRowA i2 _
   have hld2 := load12 (show (swL l).length = 12 from upto_length _ _) hr2
   go_wp2_with (first | refine wpList_load rfl _ _ rfl hld ?_ | refine wpList_storeA rfl _ _ _ rfl w.heap.size (swL l) _ rfl rfl i2 hlen hinf ?_)
   exact bodyPost_ret (v := .agg (ia (swL l))) (results_cell (p := 2) rfl _ _ w.heap.size _ rfl hld2) rfl ⟨rfl, below_rowA hbel (Nat.le_refl _) _⟩
end
section
set_option linter.unusedSimpArgs false
set_option linter.unusedVariables false
open Go.RowKit
theorem pow_le12 {v : Nat} (h : v ≤ 12) : (1 : Int) ≤ 2 ^ v ∧ (2 : Int) ^ v ≤ 4096 := by
 have h1 : (2 : Nat) ^ v ≤ 2 ^ 12 := Nat.pow_le_pow_right (by decide) h
 have h2 := Nat.two_pow_pos v
 rw [← natPow]; omega
set_option maxRecDepth 100000 in
set_option maxHeartbeats 1000000 in
theorem withR_any (v : Nat) (w : World) (hv : v ≤ 12) : Calls Tryz.prog 118 #[.int .i64 v] w fun r w' => r = .returned (.int .i64 (2 ^ v)) ∧ w = w' := by
 go_enter Tryz.func118, Tryz.ntmps118
 go_wp2_with fail
 go_loop [3, 4] (fun m i => ∃ k : Nat, k ≤ v ∧ i = .int .i64 k ∧ m = .int .i64 (2 ^ k)) (fun _ i => v - (intOf i).toNat)
 case atStart => exact ⟨0, by omega, rfl, rfl⟩
 case round =>
  obtain ⟨k, hk, rfl, rfl⟩ := hrel
  by_cases hlt : k < v
  ·have hr := pow_le12 (v := k + 1) (by omega)
   have hs : (2 : Int) ^ (k + 1) = 2 * 2 ^ k := by rw [Int.pow_succ, Int.mul_comm]
   obtain ⟨m, hm⟩ : ∃ z, z = (2 : Int) ^ k := ⟨_, rfl⟩
   rw [← hm] at hs ⊢
   obtain ⟨m2, hm2⟩ : ∃ z, z = (2 : Int) ^ (k + 1) := ⟨_, rfl⟩
   rw [← hm2] at hs hr
   have HS := Lib.hid hm2
   have q1 : IntKind.i64.wrap (2 * m) = m2 := by rw [← hs]; exact IntWalk.i64_in _ (by omega)
   have d1 : (k : Int) < (v : Int) := by omega
   clear hm hs hm2
   go_wp2
   go_round
   case rel => exact ⟨k + 1, by omega, by go_num, by rw [HS.out]⟩
   case measure => simp [intOf]; omega
  ·obtain rfl : k = v := by omega
   have d0 : ¬ ((k : Int) < (k : Int)) := by omega
   clear hlt hk
   go_wp2
   go_ret
   exact ⟨rfl, rfl⟩
set_option maxRecDepth 100000 in
set_option maxHeartbeats 1000000 in
theorem withoutR_any (p : Int) (v : Nat) (w : World) (hp : 0 ≤ p ∧ p ≤ 4095) (hv : v ≤ 12) : Calls Tryz.prog 117 #[.int .i64 p, .int .i64 v] w fun r w' => r = .returned (.int .i64 (wtoR p v)) ∧ w = w' := by
 have T0 := Lib.hid (fun W => Has_any p v W (by omega) (by omega))
 have T1 := Lib.hid (fun W => withR_any v W hv)
 have hr : wtoR p v = if hasR p v = true then p - 2 ^ v else p := rfl
 obtain ⟨R, hR⟩ : ∃ r, r = wtoR p v := ⟨_, rfl⟩
 rw [← hR] at hr ⊢
 obtain ⟨c, hc⟩ : ∃ c, c = hasR p v := ⟨_, rfl⟩
 rw [← hc] at T0 hr
 have h2 := pow_le12 hv
 obtain ⟨m, hm⟩ : ∃ m, m = (2 : Int) ^ v := ⟨_, rfl⟩
 rw [← hm] at T1 hr h2
 clear hc hm hR
 cases c with
 | true =>
   rw [if_pos rfl] at hr
   have q1 : IntKind.i64.wrap (p - m) = R := by rw [hr]; exact IntWalk.i64_in _ (by omega)
   clear hr
   go_enter Tryz.func117, Tryz.ntmps117
   go_wp2_with fail
   refine (T0.out _).mono ?_
   rintro e w1 ⟨rfl, rfl⟩
   go_wp2_with fail
   refine (T1.out _).mono ?_
   rintro e w1 ⟨rfl, rfl⟩
   go_wp2
   go_ret
   exact ⟨rfl, rfl⟩
 | false =>
   rw [if_neg (by decide)] at hr
   subst hr
   go_enter Tryz.func117, Tryz.ntmps117
   go_wp2_with fail
   refine (T0.out _).mono ?_
   rintro e w1 ⟨rfl, rfl⟩
   go_wp2
   go_ret
   exact ⟨rfl, rfl⟩
end
end Go.Proofs.YtgdkomgfalkihaaGreatDoor

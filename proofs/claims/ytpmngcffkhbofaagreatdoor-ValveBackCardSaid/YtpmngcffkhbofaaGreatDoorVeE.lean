/- The reference of chapter 7: At, Differ, Possible, ChangeOver. -/
import Derived.Test.YtpmngcffkhbofaaGreatDoorVeB
namespace Go.Proofs.YtpmngcffkhbofaaGreatDoor
section
set_option linter.unusedSimpArgs false
set_option linter.unusedVariables false
open Go.RowKit
end
section
set_option linter.unusedSimpArgs false
set_option linter.unusedVariables false
open Go.RowKit
end
section
set_option linter.unusedSimpArgs false
set_option linter.unusedVariables false
open Go.RowKit
theorem first2R (e0 e1 : Int) (G : Nat) (W : World) (h : BlkI W G 3 [e0, e1]) : Calls Tryz.prog 51 #[.slice (some ⟨G, 0, none⟩) 2 2] W fun r w' => r = .returned (.int .i64 (firstE [e0, e1])) ∧ W = w' :=
 FirstR_any _ _ W (by simp) (BlkI.ints h rfl)
set_option maxRecDepth 100000 in
set_option maxHeartbeats 1000000 in
theorem CheckLogR_any (c : Int) (a : Option Addr) (n cap : Nat) (t : List P2) (w : World) (ht : t.length ≤ 1000000) (hv : Prs w (.slice a n cap) t) :
 Calls Tryz.prog 10 #[.agg #[.int .i64 c, .slice a n cap]] w fun r w' => r = .returned (.int .i64 (logE c t)) ∧ Below w.heap.size w w' := by
 have T0 := Lib.hid (fun W => CheckRange_any c 0 255 W)
 have T1 := Lib.hid (fun W (hv : Prs W (.slice a n cap) t) => CheckTrainR_any (.slice a n cap) t W ht hv)
 have hE : logE c t = firstE [withinE c 0 255, trainE t] := rfl
 rw [hE]
 obtain ⟨e0, he0⟩ : ∃ e, e = withinE c 0 255 := ⟨_, rfl⟩
 obtain ⟨e1, he1⟩ : ∃ e, e = trainE t := ⟨_, rfl⟩
 rw [← he0] at T0
 rw [← he1] at T1
 rw [← he0, ← he1]
 clear he0 he1 hE ht
 have TF := Lib.hid (fun G W h => first2R e0 e1 G W h)
 go_enter Tryz.func10, Tryz.ntmps10
 go_upto_region 1 with fail
 obtain ⟨W1, hW1⟩ : ∃ v, v = World.alloc w (Obj.cells #[.int .i64 c, .slice a n cap] 24) := ⟨_, rfl⟩
 have kW1 : Below w.heap.size w W1 := by rw [hW1]; exact below_new _ _
 have iW1 : Blk W1 (w.heap.size) 24 [.int .i64 c, .slice a n cap] := by rw [hW1]; exact Blk.new _ _ _
 have sW1 : W1.heap.size = w.heap.size + 1 := by rw [hW1]; simp
 rw [← hW1]
 clear hW1
 have c0 := iW1.cell (j := 0) (v := .int .i64 c) rfl
 have c1 := iW1.cell (j := 1) (v := .slice a n cap) rfl
 have hB := kW1
 replace hv := hv.carry kW1
 clear iW1 sW1 kW1
 refine wp_region_E 99 (by kernel_rfl) ?_
 obtain ⟨wz, hwz⟩ : ∃ v, v = W1.drew := ⟨_, rfl⟩
 rw [← hwz]
 have hlz : Below W1.heap.size W1 wz := by rw [hwz]; exact (Below.refl _ _).drew
 have hbz := bthen hB hlz
 have c0 := cellb c0 hlz
 have c1 := cellb c1 hlz
 have hv := hv.carry hlz
 clear hwz hlz
 refine zV 0 ⟨some 3, .fieldAddr 24 (.tmp 1) 0, 0, "ref.go:104", #[], none⟩ rfl ?_
 simp only [Act.put, zS]
 refine zV 1 ⟨some 4, .load 3 (.tmp 3), 3, "ref.go:104", #[⟨0, .data⟩], none⟩ rfl ?_ (hv := fun w hE => by have c0 := cellb c0 hE; have c1 := cellb c1 hE; (try dsimp only); go_simp; try rfl)
 simp only [Act.put, zS]
 refine zV 3 ⟨some 6, .fieldAddr 24 (.tmp 1) 1, 0, "ref.go:104", #[], none⟩ rfl ?_
 simp only [Act.put, zS]
 refine zV 4 ⟨some 7, .load 22 (.tmp 6), 22, "ref.go:104", #[⟨3, .data⟩], none⟩ rfl ?_ (hv := fun w hE => by have c0 := cellb c0 hE; have c1 := cellb c1 hE; (try dsimp only); go_simp; try rfl)
 simp only [Act.put, zS]
 refine zB 2 ⟨some 5, .call ⟨.value (.func 52), #[.tmp 4, .const (.int .i64 0), .const (.int .i64 255)], #[3, 3, 3]⟩, 3, "ref.go:104", #[⟨1, .data⟩], none⟩ (fun w hE => ofPure (T0.out w)) rfl ?_
 simp only [Act.put, zS]
 refine zB 5 ⟨some 8, .call ⟨.value (.func 53), #[.tmp 7], #[22]⟩, 3, "ref.go:104", #[⟨4, .data⟩, ⟨2, .chain⟩], none⟩ (fun w hE => T1.out w (hv.carry hE)) rfl ?_
 simp only [Act.put, zS]
 refine wpAnyE_one (i := 6) (o := ⟨some 9, .buildSlice 63 2 #[(0, .tmp 5), (1, .tmp 8)], 63, "ref.go:104", #[⟨2, .data⟩, ⟨5, .data⟩], none⟩) (by kernel_rfl) rfl (fun wy1 hE K hK => ?_)
 have c0 := cellb c0 hE
 have c1 := cellb c1 hE
 have hv := hv.carry hE
 have hbz1 := bthen hbz hE
 clear hE
 go_simp
 obtain ⟨wx1, hwz⟩ : ∃ v, v = wy1.alloc (Obj.cells #[.int .i64 e0, .int .i64 e1] 3) := ⟨_, rfl⟩
 rw [← hwz]
 have hl : Below wy1.heap.size wy1 wx1 := by rw [hwz]; exact below_new _ _
 have hcz1 := bthen hbz1 hl
 have iN : BlkI wx1 wy1.heap.size 3 [e0, e1] := by rw [hwz]; exact Blk.new _ _ _
 generalize wy1.heap.size = G at iN ⊢
 have c0 := cellb c0 hl
 have c1 := cellb c1 hl
 have hv := hv.carry hl
 clear hwz
 refine hK _ _ (fun _ => hl) ?_
 clear hK K hl
 try simp only [Act.put, zS]
 refine zB 7 ⟨some 10, .call ⟨.value (.func 51), #[.tmp 9], #[63]⟩, 3, "ref.go:104", #[⟨6, .data⟩, ⟨5, .chain⟩], none⟩ (fun w hE => ofPure (TF.out _ w (Blk.carry iN hE))) rfl ?_
 simp only [Act.put, zS]
 refine zV 8 ⟨some 2, .assign (.tmp 10), 3, "ref.go:104", #[⟨7, .data⟩, ⟨7, .chain⟩, ⟨0, .phase⟩, ⟨1, .phase⟩, ⟨2, .phase⟩, ⟨3, .phase⟩, ⟨4, .phase⟩, ⟨5, .phase⟩, ⟨6, .phase⟩, ⟨7, .phase⟩], none⟩ rfl ?_
 simp only [Act.put, zS]
 refine wpAnyE_done (by kernel_rfl) (fun wy2 hE => ?_) _
 have hbz2 := bthen hcz1 hE
 have c0 := cellb c0 hE
 have c1 := cellb c1 hE
 have hv := hv.carry hE
 have iN := iN.carry hE
 clear hE
 have hB := hbz2
 obtain ⟨W9, hW9⟩ : ∃ v, v = wy2 := ⟨_, rfl⟩
 rw [← hW9] at hB ⊢
 clear hW9
 go_wp2
 go_ret
 exact ⟨rfl, hB⟩
set_option maxRecDepth 100000 in
set_option maxHeartbeats 1000000 in
theorem logO_any (c : Int) (a : Option Addr) (n cap : Nat) (t : List P2) (w : World) (ht : t.length ≤ 1000000) (hv : Prs w (.slice a n cap) t) :
 Calls Tryz.prog 8 #[.agg #[.int .i64 c, .slice a n cap]] w fun r w' => (∃ a' c', r = .returned (.agg #[.int .i64 c, .slice a' t.length c']) ∧ OwR w' w.heap.size 104 2 pV (.slice a' t.length c') t) ∧ Below w.heap.size w w' := by
 have T := Lib.hid (fun W (h : Prs W (.slice a n cap) t) => pulses_any (.slice a n cap) t W ht h)
 go_enter Tryz.func8, Tryz.ntmps8
 go_upto_region 1 with fail
 obtain ⟨W1, hW1⟩ : ∃ v, v = World.alloc w (Obj.cells #[.int .i64 c, .slice a n cap] 24) := ⟨_, rfl⟩
 have kW1 : Below w.heap.size w W1 := by rw [hW1]; exact below_new _ _
 have iW1 : Blk W1 (w.heap.size) 24 [.int .i64 c, .slice a n cap] := by rw [hW1]; exact Blk.new _ _ _
 have sW1 : W1.heap.size = w.heap.size + 1 := by rw [hW1]; simp
 rw [← hW1]
 clear hW1
 obtain ⟨W2, hW2⟩ : ∃ v, v = World.alloc W1 (Obj.cells #[.int .i64 0, .slice none 0 0] 32) := ⟨_, rfl⟩
 have kW2 : Below W1.heap.size W1 W2 := by rw [hW2]; exact below_new _ _
 have iW2 : Blk W2 (w.heap.size + 1) 32 [.int .i64 0, .slice none 0 0] := by rw [hW2, ← sW1]; exact Blk.new _ _ _
 have sW2 : W2.heap.size = w.heap.size + 1 + 1 := by rw [hW2]; simp [sW1]
 rw [← hW2]
 clear hW2
 have c0 := iW1.cell (j := 0) (v := .int .i64 c) rfl
 have c1 := iW1.cell (j := 1) (v := .slice a n cap) rfl
 have i2 := iW2
 have hB := kW1
 have kB := kW2
 replace hv := hv.carry (bthen kW1 kW2)
 have hB1 : W1.heap.size ≤ w.heap.size + 1 := by omega
 clear iW1 iW2 kW1 kW2 sW1 sW2
 refine wp_region_held_drew (S := (fun W => W.cell? ⟨w.heap.size, 0, none⟩ = some (.int .i64 c) ∧ W.cell? ⟨w.heap.size, 1, none⟩ = some (.slice a n cap))) (by kernel_rfl) ⟨cellb c0 kB.drew, cellb c1 kB.drew⟩ (fun hHeld0 => ?_)
 obtain ⟨wzd, hwz⟩ : ∃ v, v = W2.drew := ⟨_, rfl⟩
 rw [← hwz] at hHeld0 ⊢
 have hbzd : Below W1.heap.size W1 wzd := by rw [hwz]; exact kB.drew
 have hlzd : Below W2.heap.size W2 wzd := by rw [hwz]; exact (Below.refl _ _).drew
 have hv := hv.carry hlzd
 have i2 := i2.carry hlzd
 clear hwz hlzd
 refine zH 0 ⟨some 3, .fieldAddr 24 (.tmp 1) 0, 0, "law.go:84", #[], none⟩ rfl ?_
 simp only [Act.put, zS]
 refine zH 1 ⟨some 4, .load 3 (.tmp 3), 3, "law.go:84", #[⟨0, .data⟩], none⟩ rfl ?_
 simp only [Act.put, zS]
 refine zH 2 ⟨some 5, .fieldAddr 24 (.tmp 1) 1, 0, "law.go:84", #[], none⟩ rfl ?_
 simp only [Act.put, zS]
 refine zH 3 ⟨some 6, .load 22 (.tmp 5), 22, "law.go:84", #[⟨2, .data⟩], none⟩ rfl ?_
 simp only [Act.put, zS]
 refine wpAnyH_ready (rs := [4]) (by kernel_rfl) (by simp) ?_
 refine (AllReadyH.cons (o := ⟨some 7, .call ⟨.value (.func 45), #[.tmp 6], #[22]⟩, 30, "law.go:84", #[⟨3, .data⟩], none⟩) rfl (fun K hK => ?_) AllReadyH.nil)
 go_simp
 have hsz4 : w.heap.size + 2 ≤ (wzd).heap.size := Blk.lt i2
 refine (T.out wzd hv).mono ?_
 rintro e wz4 ⟨⟨u4, rfl, hu4⟩, hl⟩
 replace hu4 := own_baseV hu4 hsz4
 obtain ⟨a4, c4, rfl⟩ := own_slice hu4
 (try go_wp2_with fail)
 have hbz4 := bthen hbzd hl
 have hv := hv.carry hl
 have i2 := i2.carry hl
 clear hl
 refine hK.out _ _ ⟨cellb c0 hbz4, cellb c1 hbz4⟩ (fun hHeld1 => ?_)
 clear hK K hHeld0
 try simp only [Act.put, zS]
 refine zH 5 ⟨some 8, .build 32 #[(0, .tmp 4), (1, .tmp 7)], 32, "law.go:84", #[⟨1, .data⟩, ⟨4, .data⟩], none⟩ rfl ?_
 simp only [Act.put, zS]
 refine wpAnyH_ready (rs := [6]) (by kernel_rfl) (by simp) ?_
 refine (AllReadyH.cons (o := ⟨none, .store 32 (.tmp 2) (.tmp 8), 0, "law.go:84", #[⟨5, .data⟩, ⟨4, .chain⟩, ⟨0, .phase⟩, ⟨1, .phase⟩, ⟨2, .phase⟩, ⟨3, .phase⟩, ⟨4, .phase⟩, ⟨5, .phase⟩], none⟩) rfl (fun K hK => ?_) AllReadyH.nil)
 have f0 := i2.frozen 0
 have f1 := i2.frozen 1
 have g0 := i2.cell (j := 0) (v := .int .i64 0) rfl
 have g1 := i2.cell (j := 1) (v := .slice none 0 0) rfl
 go_simp
 obtain ⟨wz6, hwz⟩ : ∃ v, v = ((wz4.setCell ⟨w.heap.size + 1, 0, none⟩ (.int .i64 c)).setCell ⟨w.heap.size + 1, 1, none⟩ (.slice a4 t.length c4)) := ⟨_, rfl⟩
 rw [← hwz]
 have hbz6 : Below W1.heap.size W1 wz6 := by rw [hwz]; exact below_setC (below_setC hbz4 (w.heap.size + 1) 0 hB1 (.int .i64 c)) (w.heap.size + 1) 1 hB1 (.slice a4 t.length c4)
 have i4 := (i2.set 0 (.int .i64 c)).set 1 (.slice a4 t.length c4)
 rw [← hwz] at i4
 have hu5 := own_setCellV (j := 1) (x := .slice a4 t.length c4) (own_setCellV (j := 0) (x := .int .i64 c) hu4 (by omega : w.heap.size + 1 < w.heap.size + 2)) (by omega : w.heap.size + 1 < w.heap.size + 2)
 rw [← hwz] at hu5
 clear hwz
 refine hK.out _ _ ⟨cellb c0 hbz6, cellb c1 hbz6⟩ (fun hHeld2 => ?_)
 clear hK K hHeld1
 try simp only [Act.put, zS]
 refine wpAnyH_done (by kernel_rfl) ?_ _
 clear hHeld2
 have hB2 := bthen hB hbz6
 have z0 := i4.cell (j := 0) (v := .int .i64 c) rfl
 have z1 := i4.cell (j := 1) (v := .slice a4 t.length c4) rfl
 go_wp2_with fail
 exact bodyPost_ret (v := .agg #[.int .i64 c, .slice a4 t.length c4]) (by simp [results, Tryz.f8, go_sem, z0, z1]) rfl ⟨⟨_, _, rfl, own_baseV hu5 (by omega)⟩, hB2⟩
theorem logL_any (c : Int) (a : Option Addr) (n cap : Nat) (t : List P2) (w : World) (ht : t.length ≤ 1000000) (hv : Prs w (.slice a n cap) t) :
 Calls Tryz.prog 8 #[.agg #[.int .i64 c, .slice a n cap]] w fun r w' => (∃ a' n' c', r = .returned (.agg #[.int .i64 c, .slice a' n' c']) ∧ Prs w' (.slice a' n' c') t) ∧ Below w.heap.size w w' :=
 (logO_any c a n cap t w ht hv).mono (fun _ _ ⟨⟨a', c', h1, h2⟩, hb⟩ => ⟨⟨a', _, c', h1, OwR.rw h2 pV_len⟩, hb⟩)
end
end Go.Proofs.YtpmngcffkhbofaaGreatDoor

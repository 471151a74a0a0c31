/- Package valve: CheckModules, check. -/
import Derived.Test.YtpmngcffkhbofaaGreatDoorVaT
namespace Go.Proofs.YtpmngcffkhbofaaGreatDoor
set_option linter.unusedSimpArgs false
set_option linter.unusedVariables false
open Go.RowKit
def modG (ms : List Mo) (k : Nat) (m : Mo) : Int :=
 firstE [whenE (!nameB m.1.data.toList) 8, whenE ((ms.take k).any fun o => o.1.toList == m.1.toList) 9, withinE m.2.1 0 100000, withinE m.2.2.1 0 100000, withinE m.2.2.2 1 100, whenE (decide (m.2.2.1 < m.2.1)) 11]
def modsE (ms : List Mo) : Int := if 8 < ms.length then 5 else eachE (modG ms) ms
theorem Tryz.enterCM1 (args : Array Value) (w : World) : Sem.run Tryz.prog (callFunc 180 args) w = .ok (.enter 180 args) w :=
 MuLone.run_callFunc_enter Tryz.func180 (by kernel_rfl) rfl args w
theorem Tryz.enterCM11 (args : Array Value) (w : World) : Sem.run Tryz.prog (callFunc 182 args) w = .ok (.enter 182 args) w :=
 MuLone.run_callFunc_enter Tryz.func182 (by kernel_rfl) rfl args w
theorem CheckModules11_any (s t : ByteArray) (a b c : Int) (B : Nat) (w : World) (hB : w.cell? ⟨B, 0, none⟩ = some (.string t)) :
 Calls Tryz.prog 182 #[.agg #[.string s, .int .i64 a, .int .i64 b, .int .i64 c], .pointer (some ⟨B, 0, none⟩)] w fun r w' => r = .returned (.bool (s.toList == t.toList)) ∧ Below w.heap.size w w' := by
 have k1 := below_new w (.cells #[.string s, .int .i64 a, .int .i64 b, .int .i64 c] 163)
 have hB2 := cellb hB k1
 go_enter Tryz.func182, Tryz.ntmps182
 go_wp2
 go_ret
 exact ⟨rfl, k1⟩
set_option maxRecDepth 100000 in
set_option maxHeartbeats 2000000 in
theorem CheckModules1_any (k : Nat) (s : ByteArray) (x y z : Int) (ra : Option Addr) (N rcap : Nat) (rs : List Mo) (B : Nat) (w : World) (hs : s.size ≤ 1000000) (hN : N = rs.length) (hN9 : N ≤ 1000) (hk : k < N) (hcap : N ≤ rcap)
 (hr : Rw 4 mV w (.slice ra N rcap) rs) (hB : w.cell? ⟨B, 0, none⟩ = some (.slice ra N rcap)) :
 Calls Tryz.prog 180 #[.int .i64 k, .agg #[.string s, .int .i64 x, .int .i64 y, .int .i64 z], .pointer (some ⟨B, 0, none⟩)] w fun r w' => r = .returned (.int .i64 (modG rs k (s, x, y, z))) ∧ Below w.heap.size w w' := by
 have TN := Lib.hid (fun W => IsName_any s W hs)
 have TX := Lib.hid (fun (D : Nat) (W : World) (hd : W.cell? ⟨D, 0, none⟩ = some (.string s)) (h : Rw 4 mV W (.slice ra k rcap) (rs.take k)) => ContainsM_any 182 #[.pointer (some ⟨D, 0, none⟩)] Tryz.enterCM11 (fun o => o.1.toList == s.toList) (.slice ra k rcap) (rs.take k) W (by rw [List.length_take]; omega) h (fun m _ w1 hE => CheckModules11_any m.1 s m.2.1 m.2.2.1 m.2.2.2 D w1 (cellb hd hE)))
 unfold modG
 obtain ⟨A, hA⟩ : ∃ A, A = (rs.take k).any fun o => o.1.toList == s.toList := ⟨_, rfl⟩
 dsimp only
 rw [← hA] at TX ⊢
 obtain ⟨M, hM⟩ : ∃ A, A = nameB s.data.toList := ⟨_, rfl⟩
 rw [← hM] at TN ⊢
 obtain ⟨e0, he0⟩ : ∃ e, e = whenE (!M) 8 := ⟨_, rfl⟩
 obtain ⟨e1, he1⟩ : ∃ e, e = whenE A 9 := ⟨_, rfl⟩
 obtain ⟨e2, he2⟩ : ∃ e, e = withinE x 0 100000 := ⟨_, rfl⟩
 obtain ⟨e3, he3⟩ : ∃ e, e = withinE y 0 100000 := ⟨_, rfl⟩
 obtain ⟨e4, he4⟩ : ∃ e, e = withinE z 1 100 := ⟨_, rfl⟩
 obtain ⟨e5, he5⟩ : ∃ e, e = whenE (decide (y < x)) 11 := ⟨_, rfl⟩
 have T0 := Lib.hid (fun W => when_any (!M) 8 W)
 have T1 := Lib.hid (fun W => when_any A 9 W)
 have T2 := Lib.hid (fun W => within_any x 0 100000 W)
 have T3 := Lib.hid (fun W => within_any y 0 100000 W)
 have T4 := Lib.hid (fun W => within_any z 1 100 W)
 have T5 := Lib.hid (fun W => when_any (decide (y < x)) 11 W)
 rw [← he0] at T0
 rw [← he1] at T1
 rw [← he2] at T2
 rw [← he3] at T3
 rw [← he4] at T4
 rw [← he5] at T5
 rw [← he0, ← he1, ← he2, ← he3, ← he4, ← he5]
 clear he0 he1 he2 he3 he4 he5
 have TF := Lib.hid (fun (u : Value) (W : World) (h : Ints W u [e0, e1, e2, e3, e4, e5]) => first_any u _ W (by simp [maxLen]) h)
 have htk := hr.takeA hN k (by omega)
 have hk1 : (k : Int) ≤ (N : Int) := by omega
 have hk2 : (N : Int) ≤ (rcap : Int) := by omega
 have hk3 : (k : Int) ≤ (rcap : Int) := by omega
 clear hA hM hr hN hs
 go_enter Tryz.func180, Tryz.ntmps180
 go_upto_region 1 with fail
 obtain ⟨W1, hW1⟩ : ∃ v, v = World.alloc w (Obj.cells #[.string s, .int .i64 x, .int .i64 y, .int .i64 z] 163) := ⟨_, rfl⟩
 have kW1 : Below w.heap.size w W1 := by rw [hW1]; exact below_new _ _
 have iW1 : Blk W1 (w.heap.size) 163 [.string s, .int .i64 x, .int .i64 y, .int .i64 z] := by rw [hW1]; exact Blk.new _ _ _
 have sW1 : W1.heap.size = w.heap.size + 1 := by rw [hW1]; simp
 rw [← hW1]
 clear hW1
 have c0 := iW1.cell (j := 0) (v := .string s) rfl
 have c1 := iW1.cell (j := 1) (v := .int .i64 x) rfl
 have c2 := iW1.cell (j := 2) (v := .int .i64 y) rfl
 have c3 := iW1.cell (j := 3) (v := .int .i64 z) rfl
 have hB1 := cellb hB kW1
 have hbel := kW1
 replace htk := htk.carry kW1
 clear iW1 sW1 kW1 hB
 go_wp2_with fail
 refine (TX.out _ W1 c0 htk).mono ?_
 rintro e w2 ⟨rfl, hb2⟩
 have c0 := cellb c0 hb2
 have c1 := cellb c1 hb2
 have c2 := cellb c2 hb2
 have c3 := cellb c3 hb2
 replace hbel := bthen hbel hb2
 clear hb2 htk hB1 TX
 go_upto_region 2 with fail
 refine wp_region_E 24 (by kernel_rfl) ?_
 obtain ⟨wz, hwz⟩ : ∃ v, v = w2.drew := ⟨_, rfl⟩
 rw [← hwz]
 have hlz : Below w2.heap.size w2 wz := by rw [hwz]; exact (Below.refl _ _).drew
 have hbz := bthen hbel hlz
 have c0 := cellb c0 hlz
 have c1 := cellb c1 hlz
 have c2 := cellb c2 hlz
 have c3 := cellb c3 hlz
 clear hwz hlz
 refine zV 0 ⟨some 12, .fieldAddr 163 (.tmp 4) 0, 0, "plan.go:41", #[], none⟩ rfl ?_
 simp only [Act.put, zS]
 refine zV 1 ⟨some 13, .load 9 (.tmp 12), 9, "plan.go:41", #[⟨0, .data⟩], none⟩ rfl ?_ (hv := fun w hE => by have c0 := cellb c0 hE; have c1 := cellb c1 hE; have c2 := cellb c2 hE; have c3 := cellb c3 hE; (try dsimp only); go_simp; try rfl)
 simp only [Act.put, zS]
 refine zV 5 ⟨some 17, .move (.tmp 6), 4, "plan.go:41", #[], none⟩ rfl ?_
 simp only [Act.put, zS]
 refine zV 7 ⟨some 19, .fieldAddr 163 (.tmp 4) 1, 0, "plan.go:41", #[], none⟩ rfl ?_
 simp only [Act.put, zS]
 refine zV 8 ⟨some 20, .load 3 (.tmp 19), 3, "plan.go:41", #[⟨7, .data⟩], none⟩ rfl ?_ (hv := fun w hE => by have c0 := cellb c0 hE; have c1 := cellb c1 hE; have c2 := cellb c2 hE; have c3 := cellb c3 hE; (try dsimp only); go_simp; try rfl)
 simp only [Act.put, zS]
 refine zV 10 ⟨some 22, .fieldAddr 163 (.tmp 4) 2, 0, "plan.go:41", #[], none⟩ rfl ?_
 simp only [Act.put, zS]
 refine zV 11 ⟨some 23, .load 3 (.tmp 22), 3, "plan.go:41", #[⟨10, .data⟩], none⟩ rfl ?_ (hv := fun w hE => by have c0 := cellb c0 hE; have c1 := cellb c1 hE; have c2 := cellb c2 hE; have c3 := cellb c3 hE; (try dsimp only); go_simp; try rfl)
 simp only [Act.put, zS]
 refine zV 13 ⟨some 25, .fieldAddr 163 (.tmp 4) 3, 0, "plan.go:41", #[], none⟩ rfl ?_
 simp only [Act.put, zS]
 refine zV 14 ⟨some 26, .load 3 (.tmp 25), 3, "plan.go:41", #[⟨13, .data⟩], none⟩ rfl ?_ (hv := fun w hE => by have c0 := cellb c0 hE; have c1 := cellb c1 hE; have c2 := cellb c2 hE; have c3 := cellb c3 hE; (try dsimp only); go_simp; try rfl)
 simp only [Act.put, zS]
 refine zV 16 ⟨some 28, .fieldAddr 163 (.tmp 4) 1, 0, "plan.go:41", #[], none⟩ rfl ?_
 simp only [Act.put, zS]
 refine zV 17 ⟨some 29, .load 3 (.tmp 28), 3, "plan.go:41", #[⟨16, .data⟩], none⟩ rfl ?_ (hv := fun w hE => by have c0 := cellb c0 hE; have c1 := cellb c1 hE; have c2 := cellb c2 hE; have c3 := cellb c3 hE; (try dsimp only); go_simp; try rfl)
 simp only [Act.put, zS]
 refine zV 18 ⟨some 30, .fieldAddr 163 (.tmp 4) 2, 0, "plan.go:41", #[], none⟩ rfl ?_
 simp only [Act.put, zS]
 refine zV 19 ⟨some 31, .load 3 (.tmp 30), 3, "plan.go:41", #[⟨18, .data⟩], none⟩ rfl ?_ (hv := fun w hE => by have c0 := cellb c0 hE; have c1 := cellb c1 hE; have c2 := cellb c2 hE; have c3 := cellb c3 hE; (try dsimp only); go_simp; try rfl)
 simp only [Act.put, zS]
 refine zV 20 ⟨some 32, .binOp .gtr 3 (.tmp 29) (.tmp 31) 3, 4, "plan.go:41", #[⟨17, .data⟩, ⟨19, .data⟩], none⟩ rfl ?_
 simp only [Act.put, zS]
 refine zB 2 ⟨some 14, .call ⟨.value (.func 183), #[.tmp 13], #[9]⟩, 4, "plan.go:41", #[⟨1, .data⟩], none⟩ (fun w hE => (TN.out w)) rfl ?_
 simp only [Act.put, zS]
 refine zV 3 ⟨some 15, .unOp .not 4 (.tmp 14), 4, "plan.go:41", #[⟨2, .data⟩], none⟩ rfl ?_
 simp only [Act.put, zS]
 refine zB 4 ⟨some 16, .call ⟨.value (.func 47), #[.tmp 15, .const (.int .i64 8)], #[4, 27]⟩, 27, "plan.go:41", #[⟨3, .data⟩, ⟨2, .chain⟩], none⟩ (fun w hE => ofPure (T0.out w)) rfl ?_
 simp only [Act.put, zS]
 refine zB 6 ⟨some 18, .call ⟨.value (.func 47), #[.tmp 17, .const (.int .i64 9)], #[4, 27]⟩, 27, "plan.go:41", #[⟨5, .data⟩, ⟨4, .chain⟩], none⟩ (fun w hE => ofPure (T1.out w)) rfl ?_
 simp only [Act.put, zS]
 refine zB 9 ⟨some 21, .call ⟨.value (.func 59), #[.tmp 20, .const (.int .i64 0), .const (.int .i64 100000)], #[3, 3, 3]⟩, 27, "plan.go:41", #[⟨8, .data⟩, ⟨6, .chain⟩], none⟩ (fun w hE => ofPure (T2.out w)) rfl ?_
 simp only [Act.put, zS]
 refine zB 12 ⟨some 24, .call ⟨.value (.func 59), #[.tmp 23, .const (.int .i64 0), .const (.int .i64 100000)], #[3, 3, 3]⟩, 27, "plan.go:41", #[⟨11, .data⟩, ⟨9, .chain⟩], none⟩ (fun w hE => ofPure (T3.out w)) rfl ?_
 simp only [Act.put, zS]
 refine zB 15 ⟨some 27, .call ⟨.value (.func 59), #[.tmp 26, .const (.int .i64 1), .const (.int .i64 100)], #[3, 3, 3]⟩, 27, "plan.go:41", #[⟨14, .data⟩, ⟨12, .chain⟩], none⟩ (fun w hE => ofPure (T4.out w)) rfl ?_
 simp only [Act.put, zS]
 refine zB 21 ⟨some 33, .call ⟨.value (.func 47), #[.tmp 32, .const (.int .i64 11)], #[4, 27]⟩, 27, "plan.go:41", #[⟨20, .data⟩, ⟨15, .chain⟩], none⟩ (fun w hE => ofPure (T5.out w)) rfl ?_
 simp only [Act.put, zS]
 refine wpAnyE_one (i := 22) (o := ⟨some 34, .buildSlice 150 6 #[(0, .tmp 16), (1, .tmp 18), (2, .tmp 21), (3, .tmp 24), (4, .tmp 27), (5, .tmp 33)], 150, "plan.go:41", #[⟨4, .data⟩, ⟨6, .data⟩, ⟨9, .data⟩, ⟨12, .data⟩, ⟨15, .data⟩, ⟨21, .data⟩], none⟩) (by kernel_rfl) rfl (fun wy1 hE K hK => ?_)
 have c0 := cellb c0 hE
 have c1 := cellb c1 hE
 have c2 := cellb c2 hE
 have c3 := cellb c3 hE
 have hbz1 := bthen hbz hE
 clear hE
 go_simp
 obtain ⟨wx1, hwz⟩ : ∃ v, v = wy1.alloc (Obj.cells #[.int .i64 e0, .int .i64 e1, .int .i64 e2, .int .i64 e3, .int .i64 e4, .int .i64 e5] 27) := ⟨_, rfl⟩
 rw [← hwz]
 have hl : Below wy1.heap.size wy1 wx1 := by rw [hwz]; exact below_new _ _
 have hcz1 := bthen hbz1 hl
 have iN : BlkI wx1 wy1.heap.size 27 [e0, e1, e2, e3, e4, e5] := by rw [hwz]; exact Blk.new _ _ _
 generalize wy1.heap.size = G at iN ⊢
 have c0 := cellb c0 hl
 have c1 := cellb c1 hl
 have c2 := cellb c2 hl
 have c3 := cellb c3 hl
 clear hwz
 refine hK _ _ (fun _ => hl) ?_
 clear hK K hl
 try simp only [Act.put, zS]
 refine zB 23 ⟨some 35, .call ⟨.value (.func 46), #[.tmp 34], #[150]⟩, 27, "plan.go:41", #[⟨22, .data⟩, ⟨21, .chain⟩], none⟩ (fun w hE => ofPure (TF.out _ w ((BlkI.ints iN rfl).carry hE))) rfl ?_
 simp only [Act.put, zS]
 refine wpAnyE_one (i := 24) (o := ⟨some 5, .assign (.tmp 35), 27, "plan.go:41", #[⟨23, .data⟩, ⟨23, .chain⟩, ⟨0, .phase⟩, ⟨1, .phase⟩, ⟨2, .phase⟩, ⟨3, .phase⟩, ⟨4, .phase⟩, ⟨5, .phase⟩, ⟨6, .phase⟩, ⟨7, .phase⟩, ⟨8, .phase⟩, ⟨9, .phase⟩, ⟨10, .phase⟩, ⟨11, .phase⟩, ⟨12, .phase⟩, ⟨13, .phase⟩, ⟨14, .phase⟩, ⟨15, .phase⟩, ⟨16, .phase⟩, ⟨17, .phase⟩, ⟨18, .phase⟩, ⟨19, .phase⟩, ⟨20, .phase⟩, ⟨21, .phase⟩, ⟨22, .phase⟩, ⟨23, .phase⟩], none⟩) (by kernel_rfl) rfl (fun wy2 hE K hK => ?_)
 have c0 := cellb c0 hE
 have c1 := cellb c1 hE
 have c2 := cellb c2 hE
 have c3 := cellb c3 hE
 have hbz2 := bthen hcz1 hE
 go_simp
 refine hK _ _ (fun _ => Below.refl _ _) ?_
 clear hK K hE
 try simp only [Act.put, zS]
 refine wpAnyE_done (by kernel_rfl) (fun wy3 hE => ?_) _
 have hbz3 := bthen hbz2 hE
 have c0 := cellb c0 hE
 have c1 := cellb c1 hE
 have c2 := cellb c2 hE
 have c3 := cellb c3 hE
 clear hE
 have hB := hbz3
 obtain ⟨W9, hW9⟩ : ∃ v, v = wy3 := ⟨_, rfl⟩
 rw [← hW9] at hB c0 c1 c2 c3 ⊢
 clear hW9
 go_wp2
 go_ret
 exact ⟨rfl, hB⟩
set_option maxRecDepth 100000 in
set_option maxHeartbeats 2000000 in
theorem CheckModules_any (v : Value) (ms : List Mo) (w : World) (hl : ms.length ≤ 1000) (hls : ∀ m ∈ ms, m.1.size ≤ 1000000) (hv : Rw 4 mV w v ms) :
 Calls Tryz.prog 141 #[v] w fun r w' => r = .returned (.int .i64 (modsE ms)) ∧ Below w.heap.size w w' := by
 obtain ⟨a, cp, rfl, hcp⟩ := hv.slice
 obtain ⟨N, hN⟩ : ∃ N, N = ms.length := ⟨_, rfl⟩
 have HV := Lib.hid hv
 rw [← hN] at hcp HV ⊢
 have HN := Lib.hid hN
 by_cases h9 : 8 < N
 ·have b9 : decide ((8 : Int) < (N : Int)) = true := by simp; omega
  have he : modsE ms = 5 := by rw [modsE, if_pos (by omega)]
  rw [he]
  clear he hv hN
  go_enter Tryz.func141, Tryz.ntmps141
  go_upto_region 1 with fail
  obtain ⟨W1, hW1⟩ : ∃ v, v = World.alloc w (Obj.cells #[.slice a N cp] 87) := ⟨_, rfl⟩
  have kW1 : Below w.heap.size w W1 := by rw [hW1]; exact below_new _ _
  have iW1 : Blk W1 (w.heap.size) 87 [.slice a N cp] := by rw [hW1]; exact Blk.new _ _ _
  have sW1 : W1.heap.size = w.heap.size + 1 := by rw [hW1]; simp
  rw [← hW1]
  clear hW1
  have d0 := iW1.cell (j := 0) (v := .slice a N cp) rfl
  clear sW1 iW1
  go_wp2
  go_ret
  exact ⟨rfl, kW1⟩
 ·have b9 : decide ((8 : Int) < (N : Int)) = false := by simp; omega
  have he : modsE ms = eachE (modG ms) ms := by rw [modsE, if_neg (by omega)]
  rw [he]
  have TE := Lib.hid (fun (W : World) (B : Nat) (hW : Below w.heap.size w W) (hb : W.cell? ⟨B, 0, none⟩ = some (.slice a N cp)) => eachM_any 180 #[.pointer (some ⟨B, 0, none⟩)] Tryz.enterCM1 (modG ms) (fun _ _ => True) W.heap.size (.slice a N cp) ms W (by omega) (Nat.le_refl _) (fun w1 h1 => (HV.out.carry hW).carry h1) trivial (fun _ _ _ _ _ => trivial) (fun k x hx w1 h1 _ => by
   have hkl := (List.getElem?_eq_some_iff.1 hx).1
   have hvw := (HV.out.carry hW).carry h1
   have := CheckModules1_any k x.1 x.2.1 x.2.2.1 x.2.2.2 a N cp ms B w1 (hls x (List.mem_of_getElem? hx)) HN.out (by omega) (by omega) hcp hvw (cellb hb h1)
   refine this.mono fun r w2 ⟨hr, hb2⟩ => ⟨?_, hb2.mono h1.size, fun _ => trivial⟩
   rw [hr]))
  obtain ⟨E, hE⟩ : ∃ E, E = eachE (modG ms) ms := ⟨_, rfl⟩
  rw [← hE] at TE ⊢
  clear he hE hv hN h9
  go_enter Tryz.func141, Tryz.ntmps141
  go_upto_region 1 with fail
  obtain ⟨W1, hW1⟩ : ∃ v, v = World.alloc w (Obj.cells #[.slice a N cp] 87) := ⟨_, rfl⟩
  have kW1 : Below w.heap.size w W1 := by rw [hW1]; exact below_new _ _
  have iW1 : Blk W1 (w.heap.size) 87 [.slice a N cp] := by rw [hW1]; exact Blk.new _ _ _
  have sW1 : W1.heap.size = w.heap.size + 1 := by rw [hW1]; simp
  rw [← hW1]
  clear hW1
  have d0 := iW1.cell (j := 0) (v := .slice a N cp) rfl
  clear sW1 iW1
  go_wp2_with fail
  refine (TE.out W1 _ kW1 d0).mono ?_
  rintro e w2 ⟨rfl, hb2⟩
  go_wp2
  go_ret
  exact ⟨rfl, bthen kW1 hb2⟩
def bothE (ms : List Mo) (os : List I3) : Int := firstE [modsE ms, outE os]
set_option maxRecDepth 100000 in
set_option maxHeartbeats 2000000 in
theorem check_any (v u : Value) (ms : List Mo) (os : List I3) (w : World) (hl : ms.length ≤ 1000) (hls : ∀ m ∈ ms, m.1.size ≤ 1000000) (hol : os.length ≤ 1000) (hv : Rw 4 mV w v ms) (hu : Rw 3 iV w u os) :
 Calls Tryz.prog 86 #[v, u] w fun r w' => r = .returned (.int .i64 (bothE ms os)) ∧ Below w.heap.size w w' := by
 have T0 := Lib.hid (CheckModules_any v ms w hl hls hv)
 have T1 := Lib.hid (fun W (h : Rw 3 iV W u os) => CheckOutages_any u os W (by omega) h)
 unfold bothE
 obtain ⟨e0, he0⟩ : ∃ e, e = modsE ms := ⟨_, rfl⟩
 obtain ⟨e1, he1⟩ : ∃ e, e = outE os := ⟨_, rfl⟩
 rw [← he0] at T0 ⊢
 rw [← he1] at T1 ⊢
 have TF := Lib.hid (fun W => first2 e0 e1 27 W)
 have HU := Lib.hid hu
 clear he0 he1 hv hu
 go_enter Tryz.func86, Tryz.ntmps86
 go_wp2_with fail
 refine T0.out.mono ?_
 rintro e w2 ⟨rfl, hb2⟩
 go_wp2_with fail
 refine (T1.out w2 (HU.out.carry hb2)).mono ?_
 rintro e w3 ⟨rfl, hb3⟩
 replace hb3 := bthen hb2 hb3
 clear hb2
 go_wp2_with fail
 refine (TF.out w3).mono ?_
 rintro e w4 ⟨rfl, hw4⟩
 have hb4 : Below w.heap.size w w4 := by rw [← hw4]; exact bthen hb3 (below_new _ _)
 clear hw4
 go_wp2
 go_ret
 exact ⟨rfl, hb4⟩
end Go.Proofs.YtpmngcffkhbofaaGreatDoor

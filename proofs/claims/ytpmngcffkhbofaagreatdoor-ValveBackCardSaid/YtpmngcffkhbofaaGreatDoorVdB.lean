/- Valves as bits: the plain facts of the reference's halving and of the program's bits. -/
import Derived.Test.YtpmngcffkhbofaaGreatDoorVbP
namespace Go.Proofs.YtpmngcffkhbofaaGreatDoor
section
set_option linter.unusedSimpArgs false
set_option linter.unusedVariables false
open Go.RowKit
end
section
set_option linter.unusedSimpArgs false
set_option linter.unusedVariables false
open Go.RowKit
def shortB (n : Nat) : Bool := decide (n ≤ 12) || decide (n = 257)
theorem Short_any (a : Option Addr) (n c : Nat) (w : World) : Calls Tryz.prog 6 #[.slice a n c] w fun r w' => r = .returned (.bool (shortB n)) ∧ w = w' := by
 by_cases h1 : n ≤ 12
 ·have e : shortB n = true := by unfold shortB; simp [h1]
  have d1 : (n : Int) ≤ 12 := by omega
  rw [e]
  clear e h1
  go_enter Tryz.func6, Tryz.ntmps6
  go_wp2
  go_ret
  exact ⟨rfl, rfl⟩
 ·have d1 : ¬ (n : Int) ≤ 12 := by omega
  by_cases h2 : n = 257
  ·subst h2
   go_enter Tryz.func6, Tryz.ntmps6
   go_wp2
   go_ret
   exact ⟨rfl, rfl⟩
  ·have e : shortB n = false := by unfold shortB; simp [h1, h2]
   have d2 : ((n : Int) == 257) = false := by rw [beq_eq_false_iff_ne]; omega
   rw [e]
   clear e h1 h2
   go_enter Tryz.func6, Tryz.ntmps6
   go_wp2
   go_ret
   exact ⟨rfl, rfl⟩
/-- the reference tells the same error of a pulse. -/
def refG (l : List P2) (k : Nat) (x : P2) : Int := firstE [withinE x.1 0 100000, withinE x.2 0 4095, whenE (decide (0 < k) && decide (x.1 ≤ prevT l k)) 11]
theorem refG_eq (l : List P2) (k : Nat) (x : P2) : refG l k x = trainG l k x := by
 unfold refG trainG
 cases k with
 | succ k => simp
 | zero =>
   by_cases h : withinE x.1 0 100000 = 0
   ·have h1 := (withinE_zero.1 h).1
    have : decide (x.1 ≤ prevT l 0) = false := by simp [prevT]; omega
    rw [this]; simp
   ·simp [firstE, h]
theorem first3R (e0 e1 e2 : Int) (G : Nat) (W : World) (h : BlkI W G 3 [e0, e1, e2]) : Calls Tryz.prog 51 #[.slice (some ⟨G, 0, none⟩) 3 3] W fun r w' => r = .returned (.int .i64 (firstE [e0, e1, e2])) ∧ W = w' :=
 FirstR_any _ _ W (by simp) (BlkI.ints h rfl)
set_option maxRecDepth 100000 in
set_option maxHeartbeats 4000000 in
theorem CheckTrainR_any (v : Value) (l : List P2) (w : World) (hl : l.length ≤ 1000000) (hv : Prs w v l) :
 Calls Tryz.prog 53 #[v] w fun r w' => r = .returned (.int .i64 (trainE l)) ∧ Below w.heap.size w w' := by
 have HV := Lib.hid hv
 obtain ⟨a, cp, rfl, -⟩ := hv.slice
 obtain ⟨N, hN⟩ : ∃ N, N = l.length := ⟨_, rfl⟩
 rw [← hN] at HV hl ⊢
 have HN := Lib.hid hN
 by_cases hbig : 256 < N
 ·have he : trainE l = 5 := by unfold trainE; rw [if_pos (by omega)]
  have d1 : (256 : Int) < (N : Int) := by omega
  rw [he]
  clear he hN hbig hv
  go_enter Tryz.func53, Tryz.ntmps53
  go_wp2
  go_ret
  exact ⟨rfl, Below.refl _ _⟩
 ·have he : trainE l = eachE (trainG l) l := by unfold trainE; rw [if_neg (by omega)]
  have d1 : ¬ (256 : Int) < (N : Int) := by omega
  rw [he]
  have HS := Lib.hid (fun (k : Nat) (x : P2) (hx : l[k]? = some x) (h : firstE ((l.mapIdx (trainG l)).take k) = 0) => eachE_step hx h)
  have HT := Lib.hid (fun (k : Nat) (x : P2) (hx : l[k]? = some x) (h : firstE ((l.mapIdx (trainG l)).take k) = 0) (hne : trainG l k x ≠ 0) => eachE_stop hx h hne)
  have HE := Lib.hid (fun (h : firstE ((l.mapIdx (trainG l)).take l.length) = 0) => eachE_end h)
  obtain ⟨E, hE⟩ : ∃ e, e = eachE (trainG l) l := ⟨_, rfl⟩
  rw [← hE] at HT HE ⊢
  clear he hN hbig hv hE
  go_enter Tryz.func53, Tryz.ntmps53
  go_wp2_with fail
  go_loopw [3] (fun i wr => ∃ k : Nat, k ≤ N ∧ i = .int .i64 k ∧ firstE ((l.mapIdx (trainG l)).take k) = 0 ∧ Below w.heap.size w wr) (fun i _ => N - (intOf i).toNat)
  case atStart => exact ⟨0, by omega, rfl, rfl, Below.refl _ _⟩
  case round =>
   obtain ⟨k, hk, rfl, hf, hbel⟩ := hrel
   have HF := Lib.hid hf
   clear hf
   by_cases hlt : k < N
   ·have hdk : (k : Int) < (N : Int) := by omega
    obtain ⟨x, hx⟩ : ∃ x, l[k]? = some x := ⟨_, List.getElem?_eq_getElem (by rw [← HN.out]; exact hlt)⟩
    obtain ⟨b, off, cp', he, hcs⟩ := (HV.out.carry hbel).head (by rw [← HN.out]; omega)
    simp only [Value.slice.injEq] at he
    obtain ⟨rfl, -, rfl⟩ := he
    obtain ⟨c0, c1⟩ := rw2 (hcs k x hx) (show pV x = [.int .i64 x.1, .int .i64 x.2] from rfl)
    have hg := refG_eq l k x
    have hs := HS.out k x hx HF.out
    have ht := HT.out k x hx HF.out
    have T0 := Lib.hid (fun W => CheckTickR_any x.1 W)
    have T1 := Lib.hid (fun W => CheckSetR_any x.2 W)
    obtain ⟨e0, he0⟩ : ∃ e, e = withinE x.1 0 100000 := ⟨_, rfl⟩
    obtain ⟨e1, he1⟩ : ∃ e, e = withinE x.2 0 4095 := ⟨_, rfl⟩
    rw [← he0] at T0
    rw [← he1] at T1
    have hgx : trainG l k x = firstE [e0, e1, whenE (decide (0 < k) && decide (x.1 ≤ prevT l k)) 11] := by rw [← hg, he0, he1]; rfl
    obtain ⟨R, hR⟩ : ∃ r, r = trainG l k x := ⟨_, rfl⟩
    rw [← hR] at hs ht hgx
    cases k with
    | zero =>
      have TW := Lib.hid (fun W => WhenR_any false 11 W)
      obtain ⟨e2, he2⟩ : ∃ e, e = whenE false 11 := ⟨_, rfl⟩
      rw [← he2] at TW
      have hgx : R = firstE [e0, e1, e2] := by rw [hgx, he2]; rfl
      have TF := Lib.hid (fun G W h => first3R e0 e1 e2 G W h)
      rw [← hgx] at TF
      obtain ⟨x0, x1⟩ := x
      dsimp only at c0 c1 T0 T1
      have c0 : wr.cell? ⟨b, off, none⟩ = some (.int .i64 x0) := by simpa using c0
      have c1 : wr.cell? ⟨b, off + 1, none⟩ = some (.int .i64 x1) := by simpa using c1
      have HS1 := Lib.hid hs
      have HT1 := Lib.hid ht
      clear hg hs ht hgx hR he0 he1 he2 hcs hx hlt
      go_upto_region 6 with fail
      refine wp_region_E 99 (by kernel_rfl) ?_
      obtain ⟨wz, hwz⟩ : ∃ v, v = wr.drew := ⟨_, rfl⟩
      rw [← hwz]
      have hlz : Below wr.heap.size wr wz := by rw [hwz]; exact (Below.refl _ _).drew
      have hbz := bthen hbel hlz
      have c0 := cellb c0 hlz
      have c1 := cellb c1 hlz
      clear hwz hlz
      refine zV 0 ⟨some 14, .move (.tmp 0), 22, "ref.go:95", #[], none⟩ rfl ?_
      simp only [Act.put, zS]
      refine zV 1 ⟨some 15, .move (.tmp 3), 3, "ref.go:95", #[], none⟩ rfl ?_
      simp only [Act.put, zS]
      refine zV 2 ⟨some 16, .indexAddr 22 (.tmp 14) (.tmp 15), 0, "ref.go:95", #[⟨0, .data⟩, ⟨1, .data⟩], none⟩ rfl ?_
      simp only [Act.put, zS]
      refine zV 3 ⟨some 17, .fieldAddr 47 (.tmp 16) 0, 0, "ref.go:95", #[⟨2, .data⟩], none⟩ rfl ?_
      simp only [Act.put, zS]
      refine zV 4 ⟨some 18, .load 3 (.tmp 17), 3, "ref.go:95", #[⟨3, .data⟩], none⟩ rfl ?_ (hv := fun w hE => by have c0 := cellb c0 hE; have c1 := cellb c1 hE; (try dsimp only); go_simp; try rfl)
      simp only [Act.put, zS]
      refine zV 6 ⟨some 20, .move (.tmp 0), 22, "ref.go:95", #[], none⟩ rfl ?_
      simp only [Act.put, zS]
      refine zV 7 ⟨some 21, .move (.tmp 3), 3, "ref.go:95", #[], none⟩ rfl ?_
      simp only [Act.put, zS]
      refine zV 8 ⟨some 22, .indexAddr 22 (.tmp 20) (.tmp 21), 0, "ref.go:95", #[⟨6, .data⟩, ⟨7, .data⟩], none⟩ rfl ?_
      simp only [Act.put, zS]
      refine zV 9 ⟨some 23, .fieldAddr 47 (.tmp 22) 1, 0, "ref.go:95", #[⟨8, .data⟩], none⟩ rfl ?_
      simp only [Act.put, zS]
      refine zV 10 ⟨some 24, .load 3 (.tmp 23), 3, "ref.go:95", #[⟨9, .data⟩], none⟩ rfl ?_ (hv := fun w hE => by have c0 := cellb c0 hE; have c1 := cellb c1 hE; (try dsimp only); go_simp; try rfl)
      simp only [Act.put, zS]
      refine zV 12 ⟨some 26, .move (.tmp 3), 3, "ref.go:95", #[], none⟩ rfl ?_
      simp only [Act.put, zS]
      refine zV 13 ⟨some 27, .binOp .gtr 3 (.tmp 26) (.const (.int .i64 0)) 3, 4, "ref.go:95", #[⟨12, .data⟩], none⟩ rfl ?_
      simp only [Act.put, zS]
      refine zB 5 ⟨some 19, .call ⟨.value (.func 117), #[.tmp 18], #[3]⟩, 3, "ref.go:95", #[⟨4, .data⟩], none⟩ (fun w hE => ofPure (T0.out w)) rfl ?_
      simp only [Act.put, zS]
      refine zB 11 ⟨some 25, .call ⟨.value (.func 118), #[.tmp 24], #[3]⟩, 3, "ref.go:95", #[⟨10, .data⟩, ⟨5, .chain⟩], none⟩ (fun w hE => ofPure (T1.out w)) rfl ?_
      simp only [Act.put, zS]
      refine zV 14 ⟨some 28, .move (.tmp 27), 4, "ref.go:95", #[⟨13, .data⟩, ⟨11, .chain⟩], none⟩ rfl ?_
      simp only [Act.put, zS]
      refine zK 15 ⟨some 29, .move (.tmp 0), 22, "ref.go:95", #[⟨14, .guard⟩], some (14, true)⟩ rfl ?_
      simp only [Act.put, zS]
      refine zK 16 ⟨some 30, .move (.tmp 3), 3, "ref.go:95", #[⟨14, .guard⟩], some (14, true)⟩ rfl ?_
      simp only [Act.put, zS]
      refine zK 17 ⟨some 31, .binOp .sub 3 (.tmp 30) (.const (.int .i64 1)) 3, 3, "ref.go:95", #[⟨16, .data⟩, ⟨14, .guard⟩], some (14, true)⟩ rfl ?_
      simp only [Act.put, zS]
      refine zK 18 ⟨some 32, .call ⟨.builtin .max, #[.const (.int .i64 0), .tmp 31], #[3, 3]⟩, 3, "ref.go:95", #[⟨17, .data⟩, ⟨14, .guard⟩], some (14, true)⟩ rfl ?_
      simp only [Act.put, zS]
      refine zK 19 ⟨some 33, .indexAddr 22 (.tmp 29) (.tmp 32), 0, "ref.go:95", #[⟨15, .data⟩, ⟨18, .data⟩, ⟨14, .guard⟩], some (14, true)⟩ rfl ?_
      simp only [Act.put, zS]
      refine zK 20 ⟨some 34, .fieldAddr 47 (.tmp 33) 0, 0, "ref.go:95", #[⟨19, .data⟩, ⟨14, .guard⟩], some (14, true)⟩ rfl ?_
      simp only [Act.put, zS]
      refine zK 21 ⟨some 35, .load 3 (.tmp 34), 3, "ref.go:95", #[⟨20, .data⟩, ⟨14, .guard⟩], some (14, true)⟩ rfl ?_
      simp only [Act.put, zS]
      refine zK 22 ⟨some 36, .move (.tmp 0), 22, "ref.go:95", #[⟨14, .guard⟩], some (14, true)⟩ rfl ?_
      simp only [Act.put, zS]
      refine zK 23 ⟨some 37, .move (.tmp 3), 3, "ref.go:95", #[⟨14, .guard⟩], some (14, true)⟩ rfl ?_
      simp only [Act.put, zS]
      refine zK 24 ⟨some 38, .indexAddr 22 (.tmp 36) (.tmp 37), 0, "ref.go:95", #[⟨22, .data⟩, ⟨23, .data⟩, ⟨14, .guard⟩], some (14, true)⟩ rfl ?_
      simp only [Act.put, zS]
      refine zK 25 ⟨some 39, .fieldAddr 47 (.tmp 38) 0, 0, "ref.go:95", #[⟨24, .data⟩, ⟨14, .guard⟩], some (14, true)⟩ rfl ?_
      simp only [Act.put, zS]
      refine zK 26 ⟨some 40, .load 3 (.tmp 39), 3, "ref.go:95", #[⟨25, .data⟩, ⟨14, .guard⟩], some (14, true)⟩ rfl ?_
      simp only [Act.put, zS]
      refine zK 27 ⟨some 41, .binOp .geq 3 (.tmp 35) (.tmp 40) 3, 4, "ref.go:95", #[⟨21, .data⟩, ⟨26, .data⟩, ⟨14, .guard⟩], some (14, true)⟩ rfl ?_
      simp only [Act.put, zS]
      refine zV 28 ⟨some 42, .pick (.tmp 28) (.tmp 41) (.const (.bool false)), 4, "ref.go:95", #[⟨14, .data⟩, ⟨27, .data⟩], none⟩ rfl ?_
      simp only [Act.put, zS]
      refine zB 29 ⟨some 43, .call ⟨.value (.func 116), #[.tmp 42, .const (.int .i64 11)], #[4, 3]⟩, 3, "ref.go:95", #[⟨28, .data⟩, ⟨14, .chain⟩], none⟩ (fun w hE => ofPure (TW.out w)) rfl ?_
      simp only [Act.put, zS]
      refine wpAnyE_one (i := 30) (o := ⟨some 44, .buildSlice 63 3 #[(0, .tmp 19), (1, .tmp 25), (2, .tmp 43)], 63, "ref.go:95", #[⟨5, .data⟩, ⟨11, .data⟩, ⟨29, .data⟩], none⟩) (by kernel_rfl) rfl (fun wy1 hE K hK => ?_)
      have c0 := cellb c0 hE
      have c1 := cellb c1 hE
      have hbz1 := bthen hbz hE
      clear hE
      go_simp
      obtain ⟨wx1, hwz⟩ : ∃ v, v = wy1.alloc (Obj.cells #[.int .i64 e0, .int .i64 e1, .int .i64 e2] 3) := ⟨_, rfl⟩
      rw [← hwz]
      have hl : Below wy1.heap.size wy1 wx1 := by rw [hwz]; exact below_new _ _
      have hcz1 := bthen hbz1 hl
      have iN : BlkI wx1 wy1.heap.size 3 [e0, e1, e2] := by rw [hwz]; exact Blk.new _ _ _
      generalize wy1.heap.size = G at iN ⊢
      have c0 := cellb c0 hl
      have c1 := cellb c1 hl
      clear hwz
      refine hK _ _ (fun _ => hl) ?_
      clear hK K hl
      try simp only [Act.put, zS]
      refine zB 31 ⟨some 45, .call ⟨.value (.func 51), #[.tmp 44], #[63]⟩, 3, "ref.go:95", #[⟨30, .data⟩, ⟨29, .chain⟩], none⟩ (fun w hE => ofPure (TF.out _ w (Blk.carry iN hE))) rfl ?_
      simp only [Act.put, zS]
      refine zV 32 ⟨some 4, .assign (.tmp 45), 3, "ref.go:95", #[⟨31, .data⟩, ⟨31, .chain⟩, ⟨0, .phase⟩, ⟨1, .phase⟩, ⟨2, .phase⟩, ⟨3, .phase⟩, ⟨4, .phase⟩, ⟨5, .phase⟩, ⟨6, .phase⟩, ⟨7, .phase⟩, ⟨8, .phase⟩, ⟨9, .phase⟩, ⟨10, .phase⟩, ⟨11, .phase⟩, ⟨12, .phase⟩, ⟨13, .phase⟩, ⟨14, .phase⟩, ⟨15, .phase⟩, ⟨16, .phase⟩, ⟨17, .phase⟩, ⟨18, .phase⟩, ⟨19, .phase⟩, ⟨20, .phase⟩, ⟨21, .phase⟩, ⟨22, .phase⟩, ⟨23, .phase⟩, ⟨24, .phase⟩, ⟨25, .phase⟩, ⟨26, .phase⟩, ⟨27, .phase⟩, ⟨28, .phase⟩, ⟨29, .phase⟩, ⟨30, .phase⟩, ⟨31, .phase⟩], none⟩ rfl ?_
      simp only [Act.put, zS]
      refine wpAnyE_done (by kernel_rfl) (fun wy2 hE => ?_) _
      have hbz2 := bthen hcz1 hE
      have c0 := cellb c0 hE
      have c1 := cellb c1 hE
      have iN := iN.carry hE
      clear hE
      have hbel := hbz2
      obtain ⟨W9, hW9⟩ : ∃ v, v = wy2 := ⟨_, rfl⟩
      rw [← hW9] at hbel ⊢
      clear hW9 iN
      clear c0 c1 T0 T1 TW TF
      by_cases hz : R = 0
      ·have HS2 := Lib.hid (HS1.out.trans hz)
       have hb0 : (R != 0) = false := by rw [bne_eq_false_iff_eq]; exact hz
       clear hz
       go_wp2
       go_roundw
       case rel => exact ⟨0 + 1, by omega, by go_num, HS2.out, hbel⟩
       case measure => simp [intOf]; omega
      ·obtain rfl := HT1.out hz
       have hb0 : (E != 0) = true := by rw [bne_iff_ne]; exact hz
       clear hz
       go_wp2
       go_ret
       exact ⟨rfl, hbel⟩
    | succ k =>
      obtain ⟨y, hy⟩ : ∃ y, l[k]? = some y := ⟨_, List.getElem?_eq_getElem (by rw [← HN.out]; omega)⟩
      obtain ⟨q0, q1⟩ := rw2 (hcs k y hy) (show pV y = [.int .i64 y.1, .int .i64 y.2] from rfl)
      rw [prevT_succ hy, show decide (0 < k + 1) = true by simp, Bool.true_and] at hgx
      obtain ⟨x0, x1⟩ := x
      obtain ⟨y0, y1⟩ := y
      dsimp only at c0 c1 T0 T1 q0 q1 hgx
      obtain ⟨cb, hcb⟩ : ∃ c, c = decide (x0 ≤ y0) := ⟨_, rfl⟩
      rw [← hcb] at hgx
      have hcb2 : decide (x0 ≤ y0) = cb := hcb.symm
      have TW := Lib.hid (fun W => WhenR_any cb 11 W)
      obtain ⟨e2, he2⟩ : ∃ e, e = whenE cb 11 := ⟨_, rfl⟩
      rw [← he2] at TW hgx
      have TF := Lib.hid (fun G W h => first3R e0 e1 e2 G W h)
      rw [← hgx] at TF
      have HS1 := Lib.hid hs
      have HT1 := Lib.hid ht
      have r1 : IntKind.i64.wrap ((k + 1 : Nat) - 1 : Int) = (k : Int) := by rw [show ((k + 1 : Nat) : Int) - 1 = k by omega]; exact IntWalk.i64_in _ (by omega)
      have r2 : (0 : Int) < (k : Int) + 1 := by omega
      have r5 : (0 : Int) ≤ (k : Int) + 1 := by omega
      have r7 : IntKind.i64.wrap (k : Int) = (k : Int) := IntWalk.i64_in _ (by omega)
      have r8 : (0 : Int) ≤ (k : Int) := by omega
      have r6 : IntKind.i64.wrap ((k : Int) + 1 - 1) = (k : Int) := by rw [show (k : Int) + 1 - 1 = k by omega]; exact IntWalk.i64_in _ (by omega)
      have r3 : max 0 (k : Int) = k := by omega
      have r4 : (k : Int) < (N : Int) := by omega
      clear hg hs ht hgx hR he0 he1 he2 hcs hx hy hlt hcb
      go_upto_region 6 with fail
      refine wp_region_E 99 (by kernel_rfl) ?_
      obtain ⟨wz, hwz⟩ : ∃ v, v = wr.drew := ⟨_, rfl⟩
      rw [← hwz]
      have hlz : Below wr.heap.size wr wz := by rw [hwz]; exact (Below.refl _ _).drew
      have hbz := bthen hbel hlz
      have c0 := cellb c0 hlz
      have c1 := cellb c1 hlz
      have q0 := cellb q0 hlz
      have q1 := cellb q1 hlz
      clear hwz hlz
      refine zV 0 ⟨some 14, .move (.tmp 0), 22, "ref.go:95", #[], none⟩ rfl ?_
      simp only [Act.put, zS]
      refine zV 1 ⟨some 15, .move (.tmp 3), 3, "ref.go:95", #[], none⟩ rfl ?_
      simp only [Act.put, zS]
      refine zV 2 ⟨some 16, .indexAddr 22 (.tmp 14) (.tmp 15), 0, "ref.go:95", #[⟨0, .data⟩, ⟨1, .data⟩], none⟩ rfl ?_
      simp only [Act.put, zS]
      refine zV 3 ⟨some 17, .fieldAddr 47 (.tmp 16) 0, 0, "ref.go:95", #[⟨2, .data⟩], none⟩ rfl ?_
      simp only [Act.put, zS]
      refine zV 4 ⟨some 18, .load 3 (.tmp 17), 3, "ref.go:95", #[⟨3, .data⟩], none⟩ rfl ?_ (hv := fun w hE => by have c0 := cellb c0 hE; have c1 := cellb c1 hE; have q0 := cellb q0 hE; have q1 := cellb q1 hE; (try dsimp only); go_simp; try rfl)
      simp only [Act.put, zS]
      refine zV 6 ⟨some 20, .move (.tmp 0), 22, "ref.go:95", #[], none⟩ rfl ?_
      simp only [Act.put, zS]
      refine zV 7 ⟨some 21, .move (.tmp 3), 3, "ref.go:95", #[], none⟩ rfl ?_
      simp only [Act.put, zS]
      refine zV 8 ⟨some 22, .indexAddr 22 (.tmp 20) (.tmp 21), 0, "ref.go:95", #[⟨6, .data⟩, ⟨7, .data⟩], none⟩ rfl ?_
      simp only [Act.put, zS]
      refine zV 9 ⟨some 23, .fieldAddr 47 (.tmp 22) 1, 0, "ref.go:95", #[⟨8, .data⟩], none⟩ rfl ?_
      simp only [Act.put, zS]
      refine zV 10 ⟨some 24, .load 3 (.tmp 23), 3, "ref.go:95", #[⟨9, .data⟩], none⟩ rfl ?_ (hv := fun w hE => by have c0 := cellb c0 hE; have c1 := cellb c1 hE; have q0 := cellb q0 hE; have q1 := cellb q1 hE; (try dsimp only); go_simp; try rfl)
      simp only [Act.put, zS]
      refine zV 12 ⟨some 26, .move (.tmp 3), 3, "ref.go:95", #[], none⟩ rfl ?_
      simp only [Act.put, zS]
      refine zV 13 ⟨some 27, .binOp .gtr 3 (.tmp 26) (.const (.int .i64 0)) 3, 4, "ref.go:95", #[⟨12, .data⟩], none⟩ rfl ?_
      simp only [Act.put, zS]
      refine zB 5 ⟨some 19, .call ⟨.value (.func 117), #[.tmp 18], #[3]⟩, 3, "ref.go:95", #[⟨4, .data⟩], none⟩ (fun w hE => ofPure (T0.out w)) rfl ?_
      simp only [Act.put, zS]
      refine zB 11 ⟨some 25, .call ⟨.value (.func 118), #[.tmp 24], #[3]⟩, 3, "ref.go:95", #[⟨10, .data⟩, ⟨5, .chain⟩], none⟩ (fun w hE => ofPure (T1.out w)) rfl ?_
      simp only [Act.put, zS]
      refine zV 14 ⟨some 28, .move (.tmp 27), 4, "ref.go:95", #[⟨13, .data⟩, ⟨11, .chain⟩], none⟩ rfl ?_
      simp only [Act.put, zS]
      refine zV 15 ⟨some 29, .move (.tmp 0), 22, "ref.go:95", #[⟨14, .guard⟩], some (14, true)⟩ rfl ?_
      simp only [Act.put, zS]
      refine zV 16 ⟨some 30, .move (.tmp 3), 3, "ref.go:95", #[⟨14, .guard⟩], some (14, true)⟩ rfl ?_
      simp only [Act.put, zS]
      refine zV 17 ⟨some 31, .binOp .sub 3 (.tmp 30) (.const (.int .i64 1)) 3, 3, "ref.go:95", #[⟨16, .data⟩, ⟨14, .guard⟩], some (14, true)⟩ rfl ?_
      simp only [Act.put, zS]
      refine zV 18 ⟨some 32, .call ⟨.builtin .max, #[.const (.int .i64 0), .tmp 31], #[3, 3]⟩, 3, "ref.go:95", #[⟨17, .data⟩, ⟨14, .guard⟩], some (14, true)⟩ rfl ?_ (hv := fun w hE => by have c0 := cellb c0 hE; have c1 := cellb c1 hE; have q0 := cellb q0 hE; have q1 := cellb q1 hE; (try dsimp only); go_simp; try rfl)
      simp only [Act.put, zS]
      refine zV 19 ⟨some 33, .indexAddr 22 (.tmp 29) (.tmp 32), 0, "ref.go:95", #[⟨15, .data⟩, ⟨18, .data⟩, ⟨14, .guard⟩], some (14, true)⟩ rfl ?_
      simp only [Act.put, zS]
      refine zV 20 ⟨some 34, .fieldAddr 47 (.tmp 33) 0, 0, "ref.go:95", #[⟨19, .data⟩, ⟨14, .guard⟩], some (14, true)⟩ rfl ?_
      simp only [Act.put, zS]
      refine zV 21 ⟨some 35, .load 3 (.tmp 34), 3, "ref.go:95", #[⟨20, .data⟩, ⟨14, .guard⟩], some (14, true)⟩ rfl ?_ (hv := fun w hE => by have c0 := cellb c0 hE; have c1 := cellb c1 hE; have q0 := cellb q0 hE; have q1 := cellb q1 hE; (try dsimp only); go_simp; try rfl)
      simp only [Act.put, zS]
      refine zV 22 ⟨some 36, .move (.tmp 0), 22, "ref.go:95", #[⟨14, .guard⟩], some (14, true)⟩ rfl ?_
      simp only [Act.put, zS]
      refine zV 23 ⟨some 37, .move (.tmp 3), 3, "ref.go:95", #[⟨14, .guard⟩], some (14, true)⟩ rfl ?_
      simp only [Act.put, zS]
      refine zV 24 ⟨some 38, .indexAddr 22 (.tmp 36) (.tmp 37), 0, "ref.go:95", #[⟨22, .data⟩, ⟨23, .data⟩, ⟨14, .guard⟩], some (14, true)⟩ rfl ?_
      simp only [Act.put, zS]
      refine zV 25 ⟨some 39, .fieldAddr 47 (.tmp 38) 0, 0, "ref.go:95", #[⟨24, .data⟩, ⟨14, .guard⟩], some (14, true)⟩ rfl ?_
      simp only [Act.put, zS]
      refine zV 26 ⟨some 40, .load 3 (.tmp 39), 3, "ref.go:95", #[⟨25, .data⟩, ⟨14, .guard⟩], some (14, true)⟩ rfl ?_ (hv := fun w hE => by have c0 := cellb c0 hE; have c1 := cellb c1 hE; have q0 := cellb q0 hE; have q1 := cellb q1 hE; (try dsimp only); go_simp; try rfl)
      simp only [Act.put, zS]
      refine zV 27 ⟨some 41, .binOp .geq 3 (.tmp 35) (.tmp 40) 3, 4, "ref.go:95", #[⟨21, .data⟩, ⟨26, .data⟩, ⟨14, .guard⟩], some (14, true)⟩ rfl ?_
      simp only [Act.put, zS]
      refine zV 28 ⟨some 42, .pick (.tmp 28) (.tmp 41) (.const (.bool false)), 4, "ref.go:95", #[⟨14, .data⟩, ⟨27, .data⟩], none⟩ rfl ?_
      simp only [Act.put, zS]
      refine zB 29 ⟨some 43, .call ⟨.value (.func 116), #[.tmp 42, .const (.int .i64 11)], #[4, 3]⟩, 3, "ref.go:95", #[⟨28, .data⟩, ⟨14, .chain⟩], none⟩ (fun w hE => ofPure (TW.out w)) rfl ?_
      simp only [Act.put, zS]
      refine wpAnyE_one (i := 30) (o := ⟨some 44, .buildSlice 63 3 #[(0, .tmp 19), (1, .tmp 25), (2, .tmp 43)], 63, "ref.go:95", #[⟨5, .data⟩, ⟨11, .data⟩, ⟨29, .data⟩], none⟩) (by kernel_rfl) rfl (fun wy1 hE K hK => ?_)
      have c0 := cellb c0 hE
      have c1 := cellb c1 hE
      have q0 := cellb q0 hE
      have q1 := cellb q1 hE
      have hbz1 := bthen hbz hE
      clear hE
      go_simp
      obtain ⟨wx1, hwz⟩ : ∃ v, v = wy1.alloc (Obj.cells #[.int .i64 e0, .int .i64 e1, .int .i64 e2] 3) := ⟨_, rfl⟩
      rw [← hwz]
      have hl : Below wy1.heap.size wy1 wx1 := by rw [hwz]; exact below_new _ _
      have hcz1 := bthen hbz1 hl
      have iN : BlkI wx1 wy1.heap.size 3 [e0, e1, e2] := by rw [hwz]; exact Blk.new _ _ _
      generalize wy1.heap.size = G at iN ⊢
      have c0 := cellb c0 hl
      have c1 := cellb c1 hl
      have q0 := cellb q0 hl
      have q1 := cellb q1 hl
      clear hwz
      refine hK _ _ (fun _ => hl) ?_
      clear hK K hl
      try simp only [Act.put, zS]
      refine zB 31 ⟨some 45, .call ⟨.value (.func 51), #[.tmp 44], #[63]⟩, 3, "ref.go:95", #[⟨30, .data⟩, ⟨29, .chain⟩], none⟩ (fun w hE => ofPure (TF.out _ w (Blk.carry iN hE))) rfl ?_
      simp only [Act.put, zS]
      refine zV 32 ⟨some 4, .assign (.tmp 45), 3, "ref.go:95", #[⟨31, .data⟩, ⟨31, .chain⟩, ⟨0, .phase⟩, ⟨1, .phase⟩, ⟨2, .phase⟩, ⟨3, .phase⟩, ⟨4, .phase⟩, ⟨5, .phase⟩, ⟨6, .phase⟩, ⟨7, .phase⟩, ⟨8, .phase⟩, ⟨9, .phase⟩, ⟨10, .phase⟩, ⟨11, .phase⟩, ⟨12, .phase⟩, ⟨13, .phase⟩, ⟨14, .phase⟩, ⟨15, .phase⟩, ⟨16, .phase⟩, ⟨17, .phase⟩, ⟨18, .phase⟩, ⟨19, .phase⟩, ⟨20, .phase⟩, ⟨21, .phase⟩, ⟨22, .phase⟩, ⟨23, .phase⟩, ⟨24, .phase⟩, ⟨25, .phase⟩, ⟨26, .phase⟩, ⟨27, .phase⟩, ⟨28, .phase⟩, ⟨29, .phase⟩, ⟨30, .phase⟩, ⟨31, .phase⟩], none⟩ rfl ?_
      simp only [Act.put, zS]
      refine wpAnyE_done (by kernel_rfl) (fun wy2 hE => ?_) _
      have hbz2 := bthen hcz1 hE
      have c0 := cellb c0 hE
      have c1 := cellb c1 hE
      have q0 := cellb q0 hE
      have q1 := cellb q1 hE
      have iN := iN.carry hE
      clear hE
      have hbel := hbz2
      obtain ⟨W9, hW9⟩ : ∃ v, v = wy2 := ⟨_, rfl⟩
      rw [← hW9] at hbel ⊢
      clear hW9 iN
      clear c0 c1 q0 q1 T0 T1 TW TF
      by_cases hz : R = 0
      ·have HS2 := Lib.hid (HS1.out.trans hz)
       have hb0 : (R != 0) = false := by rw [bne_eq_false_iff_eq]; exact hz
       clear hz
       go_wp2
       go_roundw
       case rel => exact ⟨(k + 1) + 1, by omega, by go_num, HS2.out, hbel⟩
       case measure => simp [intOf]; omega
      ·obtain rfl := HT1.out hz
       have hb0 : (E != 0) = true := by rw [bne_iff_ne]; exact hz
       clear hz
       go_wp2
       go_ret
       exact ⟨rfl, hbel⟩
   ·obtain rfl : k = N := by omega
    have hdk : ¬ (k : Int) < (k : Int) := by omega
    have h0 := HF.out
    rw [HN.out] at h0
    have HE0 := Lib.hid (HE.out h0)
    clear h0
    go_wp2
    go_ret
    exact ⟨by rw [HE0.out]; rfl, hbel⟩
end
end Go.Proofs.YtpmngcffkhbofaaGreatDoor

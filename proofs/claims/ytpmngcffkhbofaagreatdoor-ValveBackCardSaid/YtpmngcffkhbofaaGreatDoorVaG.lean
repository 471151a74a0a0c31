/- Package valve: a log's check, changes, counts of bits, Bumps. -/
import Derived.Test.YtpmngcffkhbofaaGreatDoorVaD
namespace Go.Proofs.YtpmngcffkhbofaaGreatDoor
section
set_option linter.unusedSimpArgs false
set_option linter.unusedVariables false
open Go.RowKit
structure OwnS (w : World) (base e : Nat) (sz : Nat) (v : Value) (n : Nat) (xs : List Value) : Prop where
 o : w.ownsRow base e sz v n xs
theorem OwnS.carry {w w' : World} {base e sz n : Nat} {v : Value} {xs : List Value} (h : OwnS w base e sz v n xs) (hb : Below w.heap.size w w') : OwnS w' base e sz v n xs := ⟨own_below h.o hb⟩
theorem own_slice {w : World} {base e size n : Nat} {v : Value} {xs : List Value} (h : w.ownsRow base e size v n xs) : ∃ a c, v = .slice a n c := by
 rcases h.2 with ⟨h, h0⟩ | ⟨g, cap, cur, h, _⟩
 ·exact ⟨none, 0, by rw [h, h0]⟩
 ·exact ⟨_, _, h⟩
/-- the error of a log. -/
def logE (c : Int) (t : List P2) : Int := firstE [withinE c 0 255, trainE t]
set_option maxRecDepth 100000 in
set_option maxHeartbeats 1000000 in
theorem logCheck_any (c : Int) (a : Option Addr) (n cap : Nat) (t : List P2) (w : World) (ht : t.length ≤ 1000000000) (hv : Prs w (.slice a n cap) t) :
 Calls Tryz.prog 42 #[.agg #[.int .i64 c, .slice a n cap]] w fun r w' => r = .returned (.int .i64 (logE c t)) ∧ Below w.heap.size w w' := by
 have T0 := Lib.hid (fun W => within_any c 0 255 W)
 have T1 := Lib.hid (fun W (hv : Prs W (.slice a n cap) t) => CheckTrain_any (.slice a n cap) t W ht hv)
 have hE : logE c t = firstE [withinE c 0 255, trainE t] := rfl
 rw [hE]
 obtain ⟨e0, he0⟩ : ∃ e, e = withinE c 0 255 := ⟨_, rfl⟩
 obtain ⟨e1, he1⟩ : ∃ e, e = trainE t := ⟨_, rfl⟩
 rw [← he0] at T0
 rw [← he1] at T1
 rw [← he0, ← he1]
 clear he0 he1 hE ht
 have TF := Lib.hid (fun (u : Value) (W : World) (h : Ints W u [e0, e1]) => first_any u _ W (by simp [maxLen]) h)
 go_enter Tryz.func42, Tryz.ntmps42
 go_upto_region 1 with fail
 obtain ⟨W1, hW1⟩ : ∃ v, v = World.alloc w (Obj.cells #[.int .i64 c, .slice a n cap] 32) := ⟨_, rfl⟩
 have kW1 : Below w.heap.size w W1 := by rw [hW1]; exact below_new _ _
 have iW1 : Blk W1 (w.heap.size) 32 [.int .i64 c, .slice a n cap] := by rw [hW1]; exact Blk.new _ _ _
 have sW1 : W1.heap.size = w.heap.size + 1 := by rw [hW1]; simp
 rw [← hW1]
 clear hW1
 have c0 := iW1.cell (j := 0) (v := .int .i64 c) rfl
 have c1 := iW1.cell (j := 1) (v := .slice a n cap) rfl
 have hB := kW1
 replace hv := hv.carry kW1
 clear iW1 sW1 kW1
 refine wp_region_E 8 (by kernel_rfl) ?_
 obtain ⟨wz, hwz⟩ : ∃ v, v = W1.drew := ⟨_, rfl⟩
 rw [← hwz]
 have hlz : Below W1.heap.size W1 wz := by rw [hwz]; exact (Below.refl _ _).drew
 have hbz := bthen hB hlz
 have c0 := cellb c0 hlz
 have c1 := cellb c1 hlz
 have hv := hv.carry hlz
 clear hwz hlz
 refine zV 0 ⟨some 3, .fieldAddr 32 (.tmp 1) 0, 0, "valve.go:108", #[], none⟩ rfl ?_
 simp only [Act.put, zS]
 refine zV 1 ⟨some 4, .load 3 (.tmp 3), 3, "valve.go:108", #[⟨0, .data⟩], none⟩ rfl ?_ (hv := fun w hE => by have c0 := cellb c0 hE; have c1 := cellb c1 hE; (try dsimp only); go_simp; try rfl)
 simp only [Act.put, zS]
 refine zV 3 ⟨some 6, .fieldAddr 32 (.tmp 1) 1, 0, "valve.go:108", #[], none⟩ rfl ?_
 simp only [Act.put, zS]
 refine zV 4 ⟨some 7, .load 30 (.tmp 6), 30, "valve.go:108", #[⟨3, .data⟩], none⟩ rfl ?_ (hv := fun w hE => by have c0 := cellb c0 hE; have c1 := cellb c1 hE; (try dsimp only); go_simp; try rfl)
 simp only [Act.put, zS]
 refine zB 2 ⟨some 5, .call ⟨.value (.func 59), #[.tmp 4, .const (.int .i64 0), .const (.int .i64 255)], #[3, 3, 3]⟩, 27, "valve.go:108", #[⟨1, .data⟩], none⟩ (fun w hE => ofPure (T0.out w)) rfl ?_
 simp only [Act.put, zS]
 refine zB 5 ⟨some 8, .call ⟨.value (.func 63), #[.tmp 7], #[30]⟩, 27, "valve.go:108", #[⟨4, .data⟩, ⟨2, .chain⟩], none⟩ (fun w hE => T1.out w (hv.carry hE)) rfl ?_
 simp only [Act.put, zS]
 refine wpAnyE_one (i := 6) (o := ⟨some 9, .buildSlice 150 2 #[(0, .tmp 5), (1, .tmp 8)], 150, "valve.go:108", #[⟨2, .data⟩, ⟨5, .data⟩], none⟩) (by kernel_rfl) rfl (fun wy1 hE K hK => ?_)
 have c0 := cellb c0 hE
 have c1 := cellb c1 hE
 have hv := hv.carry hE
 have hbz1 := bthen hbz hE
 clear hE
 go_simp
 obtain ⟨wx1, hwz⟩ : ∃ v, v = wy1.alloc (Obj.cells #[.int .i64 e0, .int .i64 e1] 27) := ⟨_, rfl⟩
 rw [← hwz]
 have hl : Below wy1.heap.size wy1 wx1 := by rw [hwz]; exact below_new _ _
 have hcz1 := bthen hbz1 hl
 have iN : BlkI wx1 wy1.heap.size 27 [e0, e1] := by rw [hwz]; exact Blk.new _ _ _
 generalize wy1.heap.size = G at iN ⊢
 have c0 := cellb c0 hl
 have c1 := cellb c1 hl
 have hv := hv.carry hl
 clear hwz
 refine hK _ _ (fun _ => hl) ?_
 clear hK K hl
 try simp only [Act.put, zS]
 refine zB 7 ⟨some 10, .call ⟨.value (.func 46), #[.tmp 9], #[150]⟩, 27, "valve.go:108", #[⟨6, .data⟩, ⟨5, .chain⟩], none⟩ (fun w hE => ofPure (TF.out _ w ((BlkI.ints iN rfl).carry hE))) rfl ?_
 simp only [Act.put, zS]
 refine wpAnyE_one (i := 8) (o := ⟨some 2, .assign (.tmp 10), 27, "valve.go:108", #[⟨7, .data⟩, ⟨7, .chain⟩, ⟨0, .phase⟩, ⟨1, .phase⟩, ⟨2, .phase⟩, ⟨3, .phase⟩, ⟨4, .phase⟩, ⟨5, .phase⟩, ⟨6, .phase⟩, ⟨7, .phase⟩], none⟩) (by kernel_rfl) rfl (fun wy2 hE K hK => ?_)
 have c0 := cellb c0 hE
 have c1 := cellb c1 hE
 have hv := hv.carry hE
 have hbz2 := bthen hcz1 hE
 go_simp
 refine hK _ _ (fun _ => Below.refl _ _) ?_
 clear hK K hE
 try simp only [Act.put, zS]
 refine wpAnyE_done (by kernel_rfl) (fun wy3 hE => ?_) _
 have hbz3 := bthen hbz2 hE
 have c0 := cellb c0 hE
 have c1 := cellb c1 hE
 have hv := hv.carry hE
 clear hE
 have hB := hbz3
 obtain ⟨W9, hW9⟩ : ∃ v, v = wy3 := ⟨_, rfl⟩
 rw [← hW9] at hB ⊢
 clear hW9
 go_wp2
 go_ret
 exact ⟨rfl, hB⟩
/-- the bits in which the pulses of number i + 1 differ from those of number i. -/
def chgV (l : List P2) (i : Nat) : Int := bits .xor .i64 (l[i + 1]?.getD (0, 0)).2 (l[i]?.getD (0, 0)).2
def changesL (l : List P2) : List Int := upto (chgV l) (l.length - 1)
set_option maxRecDepth 100000 in
set_option maxHeartbeats 2000000 in
theorem changes_any (v : Value) (l : List P2) (w : World) (hl : l.length ≤ 1000000) (hv : Prs w v l) :
 Calls Tryz.prog 64 #[v] w fun r w' => (∃ u, r = .returned u ∧ OwnI 3 w.heap.size w' u (changesL l)) ∧ Below w.heap.size w w' := by
 obtain ⟨i0, hi, hz0, hz1, hz2⟩ := info_parts Tryz.infZint
 obtain ⟨N, hN⟩ : ∃ N, N = l.length := ⟨_, rfl⟩
 have HV := Lib.hid hv
 obtain ⟨a, cp, rfl, hcp, -⟩ := hv
 have HN := Lib.hid hN
 rw [← hN] at hl hcp HV ⊢
 clear hN
 go_enter Tryz.func64, Tryz.ntmps64
 go_wp2
 go_loopw [3, 4] (fun u i wr => ∃ k : Nat, 1 ≤ k ∧ (k ≤ N ∨ k = 1) ∧ i = .int .i64 k ∧ wr.ownsRow w.heap.size 3 1 u (k - 1) ((upto (chgV l) (k - 1)).map (Value.int .i64)) ∧ Below w.heap.size w wr) (fun _ i _ => N + 1 - (intOf i).toNat)
 case atStart => exact ⟨1, by omega, by omega, rfl, World.ownsRow_nil _ _ _ _, Below.refl _ _⟩
 case round =>
  obtain ⟨k, hk1, hk, rfl, hown, hbel⟩ := hrel
  by_cases hlt : k < N
  ·obtain ⟨x1, hx1⟩ : ∃ x, l[k]? = some x := ⟨_, List.getElem?_eq_getElem (by rw [← HN.out]; exact hlt)⟩
   obtain ⟨x0, hx0⟩ : ∃ x, l[k - 1]? = some x := ⟨_, List.getElem?_eq_getElem (by rw [← HN.out]; omega)⟩
   obtain ⟨b, off, cp', he, hcs⟩ := HV.out.head (by rw [← HN.out]; omega)
   simp only [Value.slice.injEq] at he
   obtain ⟨rfl, -, rfl⟩ := he
   obtain ⟨-, c1⟩ := rw2 (hcs k x1 hx1) (show pV x1 = [.int .i64 x1.1, .int .i64 x1.2] from rfl)
   obtain ⟨-, c0⟩ := rw2 (hcs (k - 1) x0 hx0) (show pV x0 = [.int .i64 x0.1, .int .i64 x0.2] from rfl)
   obtain ⟨R, hR⟩ : ∃ R, R = chgV l (k - 1) := ⟨_, rfl⟩
   have hR2 : R = bits .xor .i64 x1.2 x0.2 := by
    rw [hR, chgV, show k - 1 + 1 = k by omega, hx1, hx0]; rfl
   have hts : (upto (chgV l) k).map (Value.int .i64) = (upto (chgV l) (k - 1)).map (Value.int .i64) ++ [.int .i64 R] := by
    rw [show k = k - 1 + 1 by omega, upto_succ, List.map_append, ← show k = k - 1 + 1 by omega, ← hR]; rfl
   have HTS := Lib.hid hts
   obtain ⟨y1, hy1⟩ : ∃ y, y = x1.2 := ⟨_, rfl⟩
   obtain ⟨y0, hy0⟩ : ∃ y, y = x0.2 := ⟨_, rfl⟩
   rw [← hy1] at c1 hR2
   rw [← hy0] at c0 hR2
   have hR3 := hR2.symm
   obtain ⟨oa, oc, rfl⟩ := own_slice hown
   have hownS : OwnS wr w.heap.size 3 1 (.slice oa (k - 1) oc) (k - 1) ((upto (chgV l) (k - 1)).map (Value.int .i64)) := ⟨hown⟩
   clear hcs hx1 hx0 hR hR2 hts hy1 hy0 hown
   have e1 : IntKind.i64.wrap ((k : Int) - 1) = (k : Int) - 1 := IntWalk.i64_in _ (by omega)
   have e2 : (0 : Int) ≤ (k : Int) - 1 := by omega
   have e3 : ((k : Int) - 1).toNat = k - 1 := by omega
   have e4 : (k : Int) - 1 < (N : Int) := by omega
   have e5 : (1 : Int) ≤ (k : Int) := by omega
   have e6 : (k : Int) < (N : Int) := by omega
   have HLT := Lib.hid hlt
   clear hlt hk
   go_upto_region 5 with fail
   refine wp_region_held_drew (S := (fun W => W.cell? ⟨b, off + k * 2 + 1, none⟩ = some (.int .i64 y1) ∧ W.cell? ⟨b, off + (k - 1) * 2 + 1, none⟩ = some (.int .i64 y0))) (by kernel_rfl) ⟨cellb c1 hbel.drew, cellb c0 hbel.drew⟩ (fun hHeld0 => ?_)
   obtain ⟨wzd, hwz⟩ : ∃ v, v = wr.drew := ⟨_, rfl⟩
   rw [← hwz] at hHeld0 ⊢
   have hbzd : Below w.heap.size w wzd := by rw [hwz]; exact hbel.drew
   have hlzd : Below wr.heap.size wr wzd := by rw [hwz]; exact (Below.refl _ _).drew
   have hownS := hownS.carry hlzd
   clear hwz hlzd
   refine zH 0 ⟨some 11, .move (.tmp 3), 63, "valve.go:203", #[], none⟩ rfl ?_
   simp only [Act.put, zS]
   refine zH 1 ⟨some 12, .move (.tmp 0), 30, "valve.go:203", #[], none⟩ rfl ?_
   simp only [Act.put, zS]
   refine zH 2 ⟨some 13, .move (.tmp 4), 3, "valve.go:203", #[], none⟩ rfl ?_
   simp only [Act.put, zS]
   refine zH 3 ⟨some 14, .indexAddr 30 (.tmp 12) (.tmp 13), 0, "valve.go:203", #[⟨1, .data⟩, ⟨2, .data⟩], none⟩ rfl ?_
   simp only [Act.put, zS]
   refine zH 4 ⟨some 15, .fieldAddr 104 (.tmp 14) 1, 0, "valve.go:203", #[⟨3, .data⟩], none⟩ rfl ?_
   simp only [Act.put, zS]
   refine zH 5 ⟨some 16, .load 3 (.tmp 15), 3, "valve.go:203", #[⟨4, .data⟩], none⟩ rfl ?_
   simp only [Act.put, zS]
   refine zH 6 ⟨some 17, .move (.tmp 0), 30, "valve.go:203", #[], none⟩ rfl ?_
   simp only [Act.put, zS]
   refine zH 7 ⟨some 18, .move (.tmp 4), 3, "valve.go:203", #[], none⟩ rfl ?_
   simp only [Act.put, zS]
   refine zH 8 ⟨some 19, .binOp .sub 3 (.tmp 18) (.const (.int .i64 1)) 3, 3, "valve.go:203", #[⟨7, .data⟩], none⟩ rfl ?_
   simp only [Act.put, zS]
   refine zH 9 ⟨some 20, .indexAddr 30 (.tmp 17) (.tmp 19), 0, "valve.go:203", #[⟨6, .data⟩, ⟨8, .data⟩], none⟩ rfl ?_
   simp only [Act.put, zS]
   refine zH 10 ⟨some 21, .fieldAddr 104 (.tmp 20) 1, 0, "valve.go:203", #[⟨9, .data⟩], none⟩ rfl ?_
   simp only [Act.put, zS]
   refine zH 11 ⟨some 22, .load 3 (.tmp 21), 3, "valve.go:203", #[⟨10, .data⟩], none⟩ rfl ?_
   simp only [Act.put, zS]
   refine zH 12 ⟨some 23, .binOp .xor 3 (.tmp 16) (.tmp 22) 3, 3, "valve.go:203", #[⟨5, .data⟩, ⟨11, .data⟩], none⟩ rfl ?_
   simp only [Act.put, zS]
   refine wpAnyH_ready (rs := [13]) (by kernel_rfl) (by simp) ?_
   refine (AllReadyH.cons (o := ⟨some 24, .buildSlice 63 1 #[(0, .tmp 23)], 63, "valve.go:203", #[⟨12, .data⟩], none⟩) rfl (fun K hK => ?_) AllReadyH.nil)
   go_simp
   obtain ⟨wz13, hwz⟩ : ∃ v, v = wzd.alloc (Obj.cells #[.int .i64 R] 3) := ⟨_, rfl⟩
   rw [← hwz]
   have hl : Below wzd.heap.size wzd wz13 := by rw [hwz]; exact below_new _ _
   have hbz13 := bthen hbzd hl
   have iN : Blk wz13 wzd.heap.size 3 [.int .i64 R] := by rw [hwz]; exact Blk.new _ _ _
   generalize wzd.heap.size = G at iN ⊢
   clear hwz
   have hownS := hownS.carry hl
   clear hl
   refine hK.out _ _ ⟨cellb c1 hbz13, cellb c0 hbz13⟩ (fun hHeld1 => ?_)
   clear hK K hHeld0
   try simp only [Act.put, zS]
   refine wpAnyH_ready (rs := [14]) (by kernel_rfl) (by simp) ?_
   refine (AllReadyH.cons (o := ⟨some 25, .call ⟨.builtin .append, #[.tmp 11, .tmp 24], #[63, 63]⟩, 63, "valve.go:203", #[⟨0, .data⟩, ⟨13, .data⟩], none⟩) rfl (fun K hK => ?_) AllReadyH.nil)
   have hsz := (hbz13).size
   refine wp_append_own wz13 (.tmp 11) (.tmp 24) 63 rfl w.heap.size 3 i0 (.int .i64 0) 1 8 Tryz.undZint hi hz0 hz1 hz2 rfl (by decide) (.slice oa (k - 1) oc) (k - 1) _ rfl hownS.o ⟨G, 0, none⟩ 1 1 [.int .i64 R] rfl rfl (fun j u hj => by rw [addr_add, Nat.zero_add]; exact iN.cell hj) (by simp [Value.oneCell']) (by unfold maxLen; omega) (by omega) hsz ?_
   intro v9 wz14 hown9 hgrow9 _
   have hbz14 := (hbz13).grown hgrow9 hsz (fun k' hk' => (World.ownsRow.lt hownS.o k' hk').1)
   refine hK.out _ _ ⟨cellb c1 hbz14, cellb c0 hbz14⟩ (fun hHeld2 => ?_)
   clear hK K hHeld1
   try simp only [Act.put, zS]
   refine zH 15 ⟨some 3, .assign (.tmp 25), 63, "valve.go:203", #[⟨14, .data⟩, ⟨14, .chain⟩, ⟨0, .phase⟩, ⟨1, .phase⟩, ⟨2, .phase⟩, ⟨3, .phase⟩, ⟨4, .phase⟩, ⟨5, .phase⟩, ⟨6, .phase⟩, ⟨7, .phase⟩, ⟨8, .phase⟩, ⟨9, .phase⟩, ⟨10, .phase⟩, ⟨11, .phase⟩, ⟨12, .phase⟩, ⟨13, .phase⟩, ⟨14, .phase⟩], none⟩ rfl ?_
   simp only [Act.put, zS]
   refine wpAnyH_done (by kernel_rfl) ?_ _
   clear hHeld2
   have hB9 := hbz14
   obtain ⟨W4, hW4⟩ : ∃ v, v = wz14 := ⟨_, rfl⟩
   rw [← hW4] at hB9 hown9 ⊢
   clear hW4
   have hown4 : W4.ownsRow w.heap.size 3 1 v9 k ((upto (chgV l) k).map (Value.int .i64)) := by
    rw [HTS.out]
    rw [show k - 1 + 1 = k by omega] at hown9
    exact hown9
   clear hown9 c0 c1 e1 e2 e3 e4 e5 hR3
   go_wp2
   go_roundw
   case rel => exact ⟨k + 1, by omega, Or.inl (by have := HLT.out; omega), by go_num, hown4, hB9⟩
   case measure => have := HLT.out; simp [intOf]; omega
  ·have hout : OwnI 3 w.heap.size wr u3 (changesL l) := by
    have : k - 1 = l.length - 1 := by have := HN.out; omega
    unfold changesL OwnI
    rw [← this, upto_length]
    exact hown
   clear hown
   have e6 : ¬ (k : Int) < (N : Int) := by omega
   go_wp2
   go_ret
   exact ⟨⟨_, rfl, hout⟩, hbel⟩
def cA (x m : Int) : Int := bits .and .u64 x m
def cW (x : Int) : Int := IntKind.u64.wrap x
def cn1 (n : Int) : Int := cW (cA (n / 2) 6148914691236517205 + cA n 6148914691236517205)
def cn2 (a : Int) : Int := cW (cA (a / 4) 3689348814741910323 + cA a 3689348814741910323)
def cn3 (b : Int) : Int := cA (cW (b / 16 + b)) 1085102592571150095
def cn4 (c : Int) : Int := cW (c + c / 256)
def cn5 (d : Int) : Int := cW (d + d / 65536)
def cn6 (e : Int) : Int := cW (e + e / 4294967296)
def onesC (n : Int) : Int := bits .and .i64 (wrap64 (cn6 (cn5 (cn4 (cn3 (cn2 (cn1 n))))))) 127
/-- valve v's bit of pulses. -/
def bitV (p : Int) (v : Nat) : Int := p / 2 ^ v % 2
def popC (p : Int) : Int := ((List.range 12).map (bitV p)).foldl (· + ·) 0
theorem ones_all : (List.range 4096).all (fun n => onesC (n : Int) == popC (n : Int)) = true := by decide +kernel
theorem ones_eq {n : Int} (h : 0 ≤ n ∧ n ≤ 4095) : onesC n = popC n := by
 obtain ⟨N, rfl⟩ := Int.eq_ofNat_of_zero_le h.1
 have := List.all_eq_true.1 ones_all N (List.mem_range.2 (by omega))
 simpa using this
set_option maxRecDepth 100000 in
set_option maxHeartbeats 1000000 in
theorem OnesCount64_any (n : Int) (h : 0 ≤ n ∧ n ≤ 4095) (w : World) :
 Calls Tryz.prog 131 #[.int .u64 n] w fun r w' => r = .returned (.int .i64 (popC n)) ∧ w = w' := by
 rw [← ones_eq h]
 go_enter Tryz.func131, Tryz.ntmps131
 go_wp2
 go_ret
 exact ⟨rfl, rfl⟩
set_option maxRecDepth 100000 in
set_option maxHeartbeats 1000000 in
theorem OnesCount_any (n : Int) (h : 0 ≤ n ∧ n ≤ 4095) (w : World) :
 Calls Tryz.prog 65 #[.int .u64 n] w fun r w' => r = .returned (.int .i64 (popC n)) ∧ w = w' := by
 have TO := Lib.hid (fun W => OnesCount64_any n h W)
 go_enter Tryz.func65, Tryz.ntmps65
 go_wp2_with fail
 refine (TO.out _).mono ?_
 rintro e w2 ⟨rfl, rfl⟩
 go_wp2
 go_ret
 exact ⟨rfl, rfl⟩
end
section
set_option linter.unusedSimpArgs false
set_option linter.unusedVariables false
open Go.RowKit
theorem firstE_cons0 {x : Int} {l : List Int} : firstE (x :: l) = 0 ↔ x = 0 ∧ firstE l = 0 := by
 have e : firstE (x :: l) = if x = 0 then firstE l else x := rfl
 rw [e]
 by_cases h : x = 0
 ·simp [h]
 ·simp [h]
theorem firstE_zero {l : List Int} (h : firstE l = 0) : ∀ x ∈ l, x = 0 := by
 induction l with
 | nil => simp
 | cons y l ih =>
   obtain ⟨h1, h2⟩ := firstE_cons0.1 h
   intro x hx
   rcases List.mem_cons.1 hx with rfl | hx
   ·exact h1
   ·exact ih h2 x hx
theorem firstE_all {l : List Int} (h : ∀ x ∈ l, x = 0) : firstE l = 0 := by
 induction l with
 | nil => rfl
 | cons y l ih => exact firstE_cons0.2 ⟨h y (by simp), ih fun x hx => h x (by simp [hx])⟩
theorem eachE_zero {α : Type} {g : Nat → α → Int} {l : List α} (h : eachE g l = 0) (k : Nat) (x : α) (hx : l[k]? = some x) : g k x = 0 := by
 refine firstE_zero h _ ?_
 rw [List.mem_mapIdx]
 obtain ⟨hlt, e⟩ := List.getElem?_eq_some_iff.1 hx
 exact ⟨k, hlt, by rw [e]⟩
theorem withinE_zero {n lo hi : Int} : withinE n lo hi = 0 ↔ lo ≤ n ∧ n ≤ hi := by
 unfold withinE
 split <;> omega
theorem whenE_zero {c : Bool} {e : Int} (he : e ≠ 0) : whenE c e = 0 ↔ c = false := by
 unfold whenE
 cases c
 ·simp
 ·simp [he]
/-- a valid train: ticks and pulses within their ranges, ticks ascending. -/
structure TrOk (l : List P2) : Prop where
 len : l.length ≤ 256
 rng : ∀ (k : Nat) (x : P2), l[k]? = some x → (0 ≤ x.1 ∧ x.1 ≤ 100000) ∧ (0 ≤ x.2 ∧ x.2 ≤ 4095)
 asc : ∀ (k : Nat) (x y : P2), l[k]? = some x → l[k + 1]? = some y → x.1 < y.1
theorem trainE_ok {l : List P2} (h : trainE l = 0) : TrOk l := by
 unfold trainE at h
 split at h
 ·simp at h
 ·rename_i h9
  refine ⟨by omega, fun k x hx => ?_, fun k x y hx hy => ?_⟩
  ·have := eachE_zero h k x hx
   unfold trainG at this
   rw [firstE_cons0, firstE_cons0, withinE_zero, withinE_zero] at this
   exact ⟨this.1, this.2.1⟩
  ·have := eachE_zero h (k + 1) y hy
   unfold trainG at this
   rw [firstE_cons0, firstE_cons0, firstE_cons0, whenE_zero (by decide), prevT_succ hx] at this
   have := this.2.2.1
   simpa using this
theorem TrOk.mem {l : List P2} (h : TrOk l) {x : P2} (hx : x ∈ l) : (0 ≤ x.1 ∧ x.1 ≤ 100000) ∧ (0 ≤ x.2 ∧ x.2 ≤ 4095) := by
 obtain ⟨k, hk⟩ := List.getElem?_of_mem hx
 exact h.rng k x hk
theorem TrOk.at {l : List P2} (h : TrOk l) (k : Nat) : (0 ≤ (l[k]?.getD (0, 0)).1 ∧ (l[k]?.getD (0, 0)).1 ≤ 100000) ∧ (0 ≤ (l[k]?.getD (0, 0)).2 ∧ (l[k]?.getD (0, 0)).2 ≤ 4095) := by
 cases hx : l[k]? with
 | none => simp
 | some x => simpa using h.rng k x hx
/-- exclusive or of pulses. -/
theorem xor_nat (a b : Nat) (ha : a < 4096) (hb : b < 4096) : bits .xor .i64 (a : Int) (b : Int) = ((a ^^^ b : Nat) : Int) ∧ a ^^^ b < 4096 := by
 have hlt : a ^^^ b < 4096 := Nat.xor_lt_two_pow (n := 12) ha hb
 refine ⟨?_, hlt⟩
 show IntKind.i64.wrap ((BitVec.ofInt 64 (a : Int) ^^^ BitVec.ofInt 64 (b : Int)).toNat : Nat) = _
 have e1 : BitVec.ofInt 64 (a : Int) = BitVec.ofNat 64 a := rfl
 have e2 : BitVec.ofInt 64 (b : Int) = BitVec.ofNat 64 b := rfl
 rw [e1, e2, BitVec.toNat_xor, BitVec.toNat_ofNat, BitVec.toNat_ofNat, Nat.mod_eq_of_lt (by omega), Nat.mod_eq_of_lt (by omega)]
 exact IntWalk.i64_in _ (by omega)
theorem xor_rng {a b : Int} (ha : 0 ≤ a ∧ a ≤ 4095) (hb : 0 ≤ b ∧ b ≤ 4095) : 0 ≤ bits .xor .i64 a b ∧ bits .xor .i64 a b ≤ 4095 := by
 obtain ⟨A, rfl⟩ := Int.eq_ofNat_of_zero_le ha.1
 obtain ⟨B, rfl⟩ := Int.eq_ofNat_of_zero_le hb.1
 obtain ⟨h1, h2⟩ := xor_nat A B (by omega) (by omega)
 show 0 ≤ bits .xor .i64 (A : Int) (B : Int) ∧ bits .xor .i64 (A : Int) (B : Int) ≤ 4095
 rw [h1]; omega
theorem chgV_rng {l : List P2} (h : TrOk l) (k : Nat) : 0 ≤ chgV l k ∧ chgV l k ≤ 4095 := xor_rng (h.at _).2 (h.at _).2
/-- the bumps among the first k steps. -/
def bumpK (l : List P2) (lim : Int) (k : Nat) : List Int := ((List.range k).filter fun i => decide (lim < popC (chgV l i))).map fun i => (l[i + 1]?.getD (0, 0)).1
def bumpsL (l : List P2) (lim : Int) : List Int := bumpK l lim (l.length - 1)
theorem bumpK_succ (l : List P2) (lim : Int) (k : Nat) : bumpK l lim (k + 1) = bumpK l lim k ++ (if lim < popC (chgV l k) then [(l[k + 1]?.getD (0, 0)).1] else []) := by
 unfold bumpK
 rw [List.range_succ, List.filter_append, List.map_append]
 congr 1
 by_cases h : lim < popC (chgV l k)
 ·simp [h]
 ·simp [h]
theorem bumpK_len (l : List P2) (lim : Int) (k : Nat) : (bumpK l lim k).length ≤ k := by
 unfold bumpK
 rw [List.length_map]
 exact Nat.le_trans (List.length_filter_le _ _) (by simp)
/-- what Bumps says. -/
def bumpsE (l : List P2) (lim : Int) : Int := firstE [trainE l, withinE lim 0 12]
def bumpsR (l : List P2) (lim : Int) : List Int := if bumpsE l lim = 0 then bumpsL l lim else []
theorem u64_in (x : Int) (h : 0 ≤ x ∧ x ≤ 1000000) : IntKind.u64.wrap x = x := by
 have : IntKind.u64.wrap x = x % 18446744073709551616 := rfl
 rw [this]; omega
set_option maxRecDepth 100000 in
set_option maxHeartbeats 2000000 in
theorem Bumps_any (v : Value) (l : List P2) (lim : Int) (w : World) (hl : l.length ≤ 1000000) (hv : Prs w v l) :
 Calls Tryz.prog 24 #[v, .int .i64 lim] w fun r w' => (∃ u, r = .returned (.tuple #[u, .int .i64 (bumpsE l lim)]) ∧ Ints w' u (bumpsR l lim)) ∧ Below w.heap.size w w' := by
 have TC := Lib.hid (fun W (h : Prs W v l) => CheckTrain_any v l W (by omega) h)
 have TW := Lib.hid (fun W => within_any lim 0 12 W)
 have TG := Lib.hid (fun W (h : Prs W v l) => changes_any v l W hl h)
 have hE : bumpsE l lim = firstE [trainE l, withinE lim 0 12] := rfl
 obtain ⟨e0, he0⟩ : ∃ e, e = trainE l := ⟨_, rfl⟩
 obtain ⟨e1, he1⟩ : ∃ e, e = withinE lim 0 12 := ⟨_, rfl⟩
 rw [← he0] at TC hE
 rw [← he1] at TW hE
 obtain ⟨E, hEE⟩ : ∃ E, E = bumpsE l lim := ⟨_, rfl⟩
 have TF := Lib.hid (fun W => first2 e0 e1 27 W)
 rw [← hE, ← hEE] at TF
 have hres : bumpsR l lim = if E = 0 then bumpsL l lim else [] := by rw [hEE]; rfl
 rw [hres, ← hEE]
 have HE0 := Lib.hid he0
 have HEE := Lib.hid (hEE.trans hE)
 clear hE hEE he0 he1 hres
 go_enter Tryz.func24, Tryz.ntmps24
 go_wp2_with fail
 refine (TC.out w hv).mono ?_
 rintro e w1 ⟨rfl, hb1⟩
 go_wp2_with fail
 refine (TW.out w1).mono ?_
 rintro e w1' ⟨rfl, rfl⟩
 go_wp2_with fail
 refine (TF.out w1).mono ?_
 rintro e w2 ⟨rfl, hw2⟩
 have hb2 : Below w.heap.size w w2 := by rw [← hw2]; exact bthen hb1 (below_new _ _)
 clear hw2 hb1
 by_cases h0 : E = 0
 ·subst h0
  have hok : TrOk l := trainE_ok (by rw [← HE0.out]; exact (firstE_cons0.1 HEE.out.symm).1)
  have HOK := Lib.hid hok
  have hv2 := hv.carry hb2
  have HV := Lib.hid hv
  obtain ⟨i0, hi, hz0, hz1, hz2⟩ := info_parts Tryz.infZint
  clear TC TW TF hok
  go_wp2_with fail
  refine (TG.out w2 hv2).mono ?_
  rintro e w3 ⟨⟨u, rfl, hu⟩, hb3⟩
  replace hu := hu.ints
  have hb4 := bthen hb2 hb3
  have HU := Lib.hid hu
  obtain ⟨ua, uc, rfl, huc, -⟩ := hu
  rw [show (changesL l).length = l.length - 1 from upto_length _ _] at HU huc ⊢
  obtain ⟨M, hM⟩ : ∃ M, M = l.length - 1 := ⟨_, rfl⟩
  rw [← hM] at HU huc ⊢
  have HM := Lib.hid hM
  have hM9 : M ≤ 1000000 := by omega
  clear hM hb3 hb2 hv2
  obtain ⟨va, vc, rfl, -, -⟩ := hv
  go_wp2_with fail
  go_loopw [7, 22] (fun u i wr => ∃ k : Nat, k ≤ M ∧ i = .int .i64 k ∧ wr.ownsRow w3.heap.size 3 1 u (bumpK l lim k).length ((bumpK l lim k).map (Value.int .i64)) ∧ Below w3.heap.size w3 wr) (fun _ i _ => M - (intOf i).toNat)
  case atStart => exact ⟨0, by omega, rfl, World.ownsRow_nil _ _ _ _, Below.refl _ _⟩
  case round =>
   obtain ⟨k, hk, rfl, hown, hbel⟩ := hrel
   by_cases hlt : k < M
   ·have hui := Ints.below HU.out hbel
    obtain ⟨ua', uc', he, _, hcu0⟩ := hui
    simp only [Value.slice.injEq] at he
    obtain ⟨rfl, -, rfl⟩ := he
    obtain ⟨ub, uo, rfl, hcu⟩ := hcu0 (by rw [show (changesL l).length = l.length - 1 from upto_length _ _, ← HM.out]; omega)
    have cu := hcu k (by rw [show (changesL l).length = l.length - 1 from upto_length _ _, ← HM.out]; exact hlt)
    have hxe : (changesL l)[k]?.getD 0 = chgV l k := by
     unfold changesL upto
     rw [List.getElem?_map, List.getElem?_range (by rw [← HM.out]; exact hlt)]; rfl
    rw [hxe] at cu
    have hxr := chgV_rng HOK.out k
    have hbs := bumpK_succ l lim k
    obtain ⟨x, hx⟩ : ∃ x, x = chgV l k := ⟨_, rfl⟩
    rw [← hx] at cu hxr hbs
    have TO := Lib.hid (fun W => OnesCount_any x hxr W)
    have hcv := u64_in x (by omega)
    obtain ⟨P, hP⟩ : ∃ P, P = popC x := ⟨_, rfl⟩
    rw [← hP] at TO hbs
    clear hcu hxe hx hP hxr hcu0
    have e6 : (k : Int) < (M : Int) := by omega
    by_cases hp : lim < P
    ·rw [if_pos hp] at hbs
     obtain ⟨y, hy⟩ : ∃ y, l[k + 1]? = some y := ⟨_, List.getElem?_eq_getElem (by have := HM.out; omega)⟩
     rw [hy] at hbs
     obtain ⟨b, off, cp2, he, hcs⟩ := (HV.out.carry (bthen hb4 hbel)).head (by have := HM.out; omega)
     simp only [Value.slice.injEq] at he
     obtain ⟨rfl, -, rfl⟩ := he
     obtain ⟨c0, -⟩ := rw2 (hcs (k + 1) y hy) (show pV y = [.int .i64 y.1, .int .i64 y.2] from rfl)
     obtain ⟨y1, hy1⟩ : ∃ y1, y1 = y.1 := ⟨_, rfl⟩
     rw [Option.getD_some, ← hy1] at hbs
     rw [← hy1] at c0
     have HBS := Lib.hid hbs
     have hLe := bumpK_len l lim k
     obtain ⟨NB, hNB⟩ : ∃ N, N = (bumpK l lim k).length := ⟨_, rfl⟩
     rw [← hNB] at hown hLe
     have HNB := Lib.hid hNB
     obtain ⟨oa, oc, rfl⟩ := own_slice hown
     have hmk : (k : Int) + 1 < (l.length : Int) := by have := HM.out; omega
     clear hbs hy hcs hy1 hNB
     have q1 : IntKind.i64.wrap ((k : Int) + 1) = (k : Int) + 1 := IntWalk.i64_in _ (by omega)
     have q2 : ((k : Int) + 1).toNat = k + 1 := by omega
     have q3 : (0 : Int) ≤ (k : Int) + 1 := by omega
     go_wp2_with fail
     refine (TO.out _).mono ?_
     rintro e w5 ⟨rfl, rfl⟩
     go_wp2_with (at_builtin; refine wpList_append_own _ rfl _ _ 63 rfl w3.heap.size 3 i0 (.int .i64 0) 1 8 Tryz.undZint hi hz0 hz1 hz2 rfl (by decide) (.slice oa NB oc) NB _ rfl (own_below hown (below_new _ _)) ⟨wr.heap.size, 0, none⟩ 1 1 [.int .i64 y1] rfl rfl (cell_one_new _ _ _) (by simp [Value.oneCell']) (by unfold maxLen; omega) (by omega) (by have := hbel.size; simp; omega) ?_; intro v7 w8 hown' hgrow _)
     have hbelN : Below w3.heap.size w3 w8 := (bthen hbel (below_new wr (.cells #[.int .i64 y1] 3))).trans (below_grow (own_below hown (below_new _ _)) (by have := hbel.size; simp; omega) hgrow)
     have hownN : w8.ownsRow w3.heap.size 3 1 v7 (bumpK l lim (k + 1)).length ((bumpK l lim (k + 1)).map (Value.int .i64)) := by
      rw [HBS.out, List.length_append, List.map_append, ← HNB.out]
      exact hown'
     clear hown hown' hgrow hbel c0 cu
     go_wp2
     go_roundw
     case rel => exact ⟨k + 1, by omega, by go_num, hownN, hbelN⟩
     case measure => simp [intOf]; omega
    ·rw [if_neg hp, List.append_nil] at hbs
     have HBS := Lib.hid hbs
     clear hbs
     go_wp2_with fail
     refine (TO.out _).mono ?_
     rintro e w5 ⟨rfl, rfl⟩
     go_wp2
     go_roundw
     case rel => exact ⟨k + 1, by omega, by go_num, by rw [HBS.out]; exact hown, hbel⟩
     case measure => simp [intOf]; omega
   ·have hkM : k = M := by omega
    have hout : Ints wr u7 (bumpsL l lim) := by
     unfold bumpsL
     rw [← HM.out, ← hkM]
     exact Ints.of_own hown rfl
    clear hown hkM
    have e6 : ¬ (k : Int) < (M : Int) := by omega
    go_wp2
    go_ret2
    exact ⟨⟨_, rfl, hout⟩, bthen hb4 hbel⟩
 ·have z : (E == 0) = false := by rw [beq_eq_false_iff_ne]; exact h0
  have HNE := Lib.hid h0
  clear h0
  go_wp2
  go_ret2
  exact ⟨⟨_, rfl, Ints.nil _⟩, hb2⟩
end
section
set_option linter.unusedSimpArgs false
set_option linter.unusedVariables false
open Go.RowKit
theorem and_one (x : Int) (hx : 0 ≤ x ∧ x < 1099511627776) : bits .and .i64 x 1 = x % 2 := by
 obtain ⟨X, rfl⟩ := Int.eq_ofNat_of_zero_le hx.1
 have h1 : X &&& 1 = X % 2 := Nat.and_one_is_mod X
 show IntKind.i64.wrap ((BitVec.ofInt 64 (X : Int) &&& BitVec.ofInt 64 (1 : Int)).toNat : Nat) = _
 have e1 : BitVec.ofInt 64 (X : Int) = BitVec.ofNat 64 X := rfl
 have e2 : BitVec.ofInt 64 (1 : Int) = BitVec.ofNat 64 1 := rfl
 rw [e1, e2, BitVec.toNat_and, BitVec.toNat_ofNat, BitVec.toNat_ofNat, Nat.mod_eq_of_lt (by omega), Nat.mod_eq_of_lt (by decide), h1]
 have h2 : -9223372036854775808 ≤ ((X % 2 : Nat) : Int) ∧ ((X % 2 : Nat) : Int) ≤ 9223372036854775807 := by omega
 rw [IntWalk.i64_in _ h2]
 omega
theorem pow_pos2 (v : Nat) : (0 : Int) < 2 ^ v := Int.pow_pos (by decide)
theorem div_rng {x : Int} (v : Nat) (h : 0 ≤ x ∧ x ≤ 4095) : 0 ≤ x / 2 ^ v ∧ x / 2 ^ v ≤ 4095 :=
 ⟨Int.ediv_nonneg h.1 (Int.le_of_lt (pow_pos2 v)), Int.le_trans (Int.ediv_le_self _ h.1) h.2⟩
theorem bitV_rng (p : Int) (v : Nat) : 0 ≤ bitV p v ∧ bitV p v ≤ 1 := by unfold bitV; omega
theorem bit_and {x : Int} (v : Nat) (h : 0 ≤ x ∧ x ≤ 4095) : bits .and .i64 (x / 2 ^ v) 1 = bitV x v := by
 have := div_rng v h
 rw [and_one _ (by omega)]; rfl
/-- how often valve v switches in the first k steps. -/
def swS (l : List P2) (v : Nat) : Nat → Int
 | 0 => 0
 | k + 1 => swS l v k + bitV (chgV l k) v
theorem swS_rng (l : List P2) (v k : Nat) : 0 ≤ swS l v k ∧ swS l v k ≤ k := by
 induction k with
 | zero => simp [swS]
 | succ k ih =>
   have := bitV_rng (chgV l k) v
   simp only [swS]; omega
/-- the counts while valves below j have been counted in step k. -/
def swR (l : List P2) (k j : Nat) : List Int := upto (fun v => if v < j then swS l v (k + 1) else swS l v k) 12
def swL (l : List P2) : List Int := upto (fun v => swS l v (l.length - 1)) 12
theorem upto_get {α : Type} (f : Nat → α) (n i : Nat) (h : i < n) : (upto f n)[i]? = some (f i) := by
 unfold upto
 rw [List.getElem?_map, List.getElem?_range h]; rfl
theorem upto_set {α : Type} (f g : Nat → α) (n i : Nat) (x : α) (hx : g i = x) (h : ∀ j, j ≠ i → g j = f j) : (upto f n).set i x = upto g n := by
 apply List.ext_getElem?
 intro j
 rw [List.getElem?_set, upto_length]
 by_cases hj : i = j
 ·subst hj
  rw [if_pos rfl]
  split
  ·rename_i hlt; rw [upto_get _ _ _ hlt, hx]
  ·rename_i hlt
   rw [List.getElem?_eq_none (by rw [upto_length]; omega)]
 ·rw [if_neg hj]
  by_cases hlt : j < n
  ·rw [upto_get _ _ _ hlt, upto_get _ _ _ hlt, h j (fun e => hj e.symm)]
  ·rw [List.getElem?_eq_none (by rw [upto_length]; omega), List.getElem?_eq_none (by rw [upto_length]; omega)]
theorem swR_set (l : List P2) (k j : Nat) : (swR l k j).set j (swS l j k + bitV (chgV l k) j) = swR l k (j + 1) := by
 unfold swR
 refine upto_set _ _ _ _ _ ?_ ?_
 ·rw [if_pos (by omega)]; rfl
 ·intro i hi
  by_cases h : i < j
  ·rw [if_pos (by omega), if_pos h]
  ·rw [if_neg (by omega), if_neg h]
theorem swR_end (l : List P2) (k : Nat) : swR l k 12 = swR l (k + 1) 0 := by
 unfold swR upto
 refine List.map_congr_left fun v hv => ?_
 rw [List.mem_range] at hv
 rw [if_pos hv, if_neg (by omega)]
theorem swR_last (l : List P2) : swR l (l.length - 1) 0 = swL l := by
 unfold swR swL upto
 refine List.map_congr_left fun v hv => ?_
 rw [if_neg (by omega)]
theorem swR_zero (l : List P2) : swR l 0 0 = List.replicate 12 0 := by
 unfold swR upto
 rw [show (fun v => if v < 0 then swS l v (0 + 1) else swS l v 0) = fun _ => (0 : Int) from funext fun v => by rw [if_neg (by omega)]; rfl]
 rfl
theorem swR_len (l : List P2) (k j : Nat) : (swR l k j).length = 12 := upto_length _ _
theorem swR_at (l : List P2) (k j : Nat) (hj : j < 12) : (swR l k j)[j]? = some (swS l j k) := by
 unfold swR
 rw [upto_get _ _ _ hj, if_neg (by omega)]
theorem Tryz.undA12 : Tryz.prog.underlying 75 = some (.array 12 3) := by kernel_rfl
theorem Tryz.infoA12 : (Tryz.prog.info? 75).map (·.size) = some 12 := by kernel_rfl
theorem Tryz.infoInt1 : (Tryz.prog.info? 3).map (·.size) = some 1 := by kernel_rfl
/-- an element of an array of twelve. -/
theorem idx12 {l : List Int} (hl : l.length = 12) {k : Nat} (hk : k < 12) (w : World) : Sem.run Tryz.prog (Instr.index 75 (.agg (ia l)) (.int .i64 k)) w = .ok (.int .i64 (l[k]?.getD 0)) w := by
 obtain ⟨i, hi⟩ : ∃ i, Tryz.prog.info? 3 = some i := by
  cases h : Tryz.prog.info? 3 with
  | none => have := Tryz.infoInt1; rw [h] at this; cases this
  | some i => exact ⟨i, rfl⟩
 have hs : i.size = 1 := by have := Tryz.infoInt1; rw [hi] at this; simpa using this
 simp [Instr.index, asIntOf, run_underlying Tryz.undA12, sizeOf, typeInfo, hi, hs]
 rw [if_pos hk]
 have hg : (ia l)[k]? = some (.int .i64 (l[k]?.getD 0)) := ia_get l k (by omega)
 simp [part, isAgg, run_underlying (show Tryz.prog.underlying 3 = some _ by kernel_rfl), hg]
/-- the load of an array of twelve. -/
theorem load12 {l : List Int} (hl : l.length = 12) {w : World} {B : Nat} (h : BlkI w B 75 l) : Sem.run Tryz.prog (Instr.loadAt 75 (.pointer (some ⟨B, 0, none⟩))) w = .ok (.agg (ia l)) w := by
 have := run_loadVar_row (P := Tryz.prog) w B 75 75 (ia l) (0, 0) _ h Tryz.undA12 rfl (by rw [Tryz.infoA12, ia_size, hl])
 simp only [Instr.loadAt, Instr.sureAddr, Sem.run_bind, Sem.run_pure, Result.andThen_ok, this]
theorem wpList_load {P : Program} {w : World} {ops : Array Oper} {rest : List Oper} {o : Oper} {a : Act} {Q : Exit → Act → World → Prop} (hg : o.guard = none) (t : TypeId) (x : Operand) (hop : o.op = Op.load t x) {v : Value}
 (hrun : (Instr.loadAt t (a.eval x)).run P w = .ok v w) (hK : wpList P ops Q rest (a.put o.dst v) w) : wpList P ops Q (o :: rest) a w := by
 refine wpList_plain hg fun K' hK' => ?_
 unfold Oper.wp execOp
 simp only [hop, hrun, Sem.run_bind, Sem.run_pure, Result.andThen_ok]
 exact hK' _ _ hK
theorem ia_one (l : List Int) : (ia l).all (·.oneCell') = true := by
 rw [Array.all_eq_true_iff_forall_mem]
 intro v hv
 simp [ia] at hv
 obtain ⟨x, _, rfl⟩ := hv
 rfl
/-- a whole row is stored. -/
theorem wpList_storeA {w : World} {ops : Array Oper} {rest : List Oper} {o : Oper} {a : Act} {Q : Exit → Act → World → Prop} (hg : o.guard = none) (T : TypeId) (x y : Operand) (hop : o.op = Op.store T x y) (B : Nat) (l old : List Int)
 (hx : a.eval x = .pointer (some ⟨B, 0, none⟩)) (hy : a.eval y = .agg (ia l)) (hB : BlkI w B T old) (hlo : old.length = l.length) (hi : (Tryz.prog.info? T).map (·.size) = some l.length)
 (hK : wpList Tryz.prog ops Q rest (a.put o.dst undef) (w.setRow B (ia l))) : wpList Tryz.prog ops Q (o :: rest) a w :=
 wpList_plain hg fun _ hK' => wp_store_row T x y hop B (ia l) hx hy T (ia old) hB (by rw [hi, ia_size]) (by rw [ia_size, ia_size, hlo]) (ia_one l) (hK' _ _ hK)
theorem BlkI.setRowA {w : World} {B : Nat} {T : TypeId} {old : List Int} (h : BlkI w B T old) (l : List Int) : BlkI (w.setRow B (ia l)) B T l := setRow_heap w B _ _ T (0, 0) h
theorem below_rowA {B g : Nat} {w0 w : World} (hb : Below B w0 w) (hBg : B ≤ g) (cs : Array Value) : Below B w0 (w.setRow g cs) :=
 hb.trans ⟨rfl, rfl, rfl, by simp [World.setRow], fun k hk => setRow_other w g k cs (by omega)⟩
/-- an array and another result. -/
theorem results_cell_tmp {P : Program} {fn : Func} {p q : Tmp} {ty : TypeId} (h : fn.results = #[.cell p ty, .tmp q]) (tmps : Array Value) (w : World) (B : Nat) (v : Value) (hp : tmps.getD p undef = .pointer (some ⟨B, 0, none⟩)) (u : Value) (hu : tmps.getD q undef = u) (hv : (loadVar ty ⟨B, 0, none⟩).run P w = .ok v w) :
 (results fn tmps).run P w = .ok (.tuple #[v, u]) w := by
 subst hu
 have hp' : tmps[p]?.getD undef = .pointer (some ⟨B, 0, none⟩) := by simpa using hp
 simp [results, h, hp', asAddr, hv]
theorem Blk.setRow {w : World} {B B' : Nat} {T : TypeId} {vs : List Value} (h : Blk w B T vs) (hne : B ≠ B') (cs : Array Value) : Blk (w.setRow B' cs) B T vs := (setRow_other w B' B cs hne).trans h
/-- zeros laid next, and a row stored there. -/
theorem zrow_below (w : World) (T : TypeId) (c c' : Array Value) : Below w.heap.size w ((w.alloc (.cells c T)).setRow w.heap.size c') := below_rowA (below_new w _) (Nat.le_refl _) c'
theorem zrow_blk (w : World) (T : TypeId) (z l : List Int) : BlkI ((w.alloc (.cells (ia z) T)).setRow w.heap.size (ia l)) w.heap.size T l := BlkI.setRowA (BlkI.new w T z) l
/-- an array alone. -/
theorem results_cell {P : Program} {fn : Func} {p : Tmp} {ty : TypeId} (h : fn.results = #[.cell p ty]) (tmps : Array Value) (w : World) (B : Nat) (v : Value) (hp : tmps.getD p undef = .pointer (some ⟨B, 0, none⟩)) (hv : (loadVar ty ⟨B, 0, none⟩).run P w = .ok v w) :
 (results fn tmps).run P w = .ok v w := by
 have hp' : tmps[p]?.getD undef = .pointer (some ⟨B, 0, none⟩) := by simpa using hp
 simp [results, h, hp', asAddr, hv]
theorem own_setCellR {w : World} {base e size n B j : Nat} {v x : Value} {xs : List Value} (h : w.ownsRow base e size v n xs) (hB : B < base) : (w.setCell ⟨B, j, none⟩ x).ownsRow base e size v n xs := by
 refine ⟨h.1, ?_⟩
 rcases h.2 with h1 | ⟨g, cap, cur, hv, hg, hh, hr⟩
 ·exact .inl h1
 ·exact .inr ⟨g, cap, cur, hv, hg, (Below.heap_setCell _ _ _ _ (show g ≠ B by omega)).trans hh, hr⟩
theorem OwnI.setF {e base B j : Nat} {w : World} {v x : Value} {l : List Int} (h : OwnI e base w v l) (hB : B < base) : OwnI e base (w.setCell ⟨B, j, none⟩ x) v l := own_setCellR h hB
theorem OwnI.cells {e base : Nat} {w : World} {v : Value} {l : List Int} (h : OwnI e base w v l) (h0 : 0 < l.length) : ∃ g cap, v = .slice (some ⟨g, 0, none⟩) l.length cap ∧ ∀ j, j < l.length → w.cell? ⟨g, j, none⟩ = some (.int .i64 (l[j]?.getD 0)) := by
 obtain ⟨b, off, cap, hv, hc⟩ := h.ints.head h0
 obtain ⟨h1, h2⟩ := h
 rcases h2 with ⟨rfl, h2⟩ | ⟨g, cap', cur, hv', hg, hh, hr⟩
 ·omega
 ·rw [hv] at hv'
  simp only [Value.slice.injEq, Option.some.injEq, Addr.mk.injEq] at hv'
  obtain ⟨⟨rfl, rfl, -⟩, -, rfl⟩ := hv'
  exact ⟨b, cap, hv, fun j hj => by have := hc j hj; rwa [Nat.zero_add] at this⟩
set_option maxRecDepth 100000 in
set_option maxHeartbeats 4000000 in
theorem switchings_any (v : Value) (l : List P2) (w : World) (hl : l.length ≤ 1000000) (hok : TrOk l) (hv : Prs w v l) :
 Calls Tryz.prog 76 #[v] w fun r w' => r = .returned (.agg (ia (swL l))) ∧ Below w.heap.size w w' := by
 have TG := Lib.hid (fun W (h : Prs W v l) => changes_any v l W hl h)
 have HOK := Lib.hid hok
 obtain ⟨va, vc, rfl, -, -⟩ := id hv
 clear hok
 go_enter Tryz.func76, Tryz.ntmps76
 go_upto_region 2 with fail
 obtain ⟨W1, hW1⟩ : ∃ v, v = World.alloc w (Obj.cells #[.int .i64 0, .int .i64 0, .int .i64 0, .int .i64 0, .int .i64 0, .int .i64 0, .int .i64 0, .int .i64 0, .int .i64 0, .int .i64 0, .int .i64 0, .int .i64 0] 75) := ⟨_, rfl⟩
 have kW1 : Below w.heap.size w W1 := by rw [hW1]; exact below_new _ _
 have iW1 : Blk W1 (w.heap.size) 75 [.int .i64 0, .int .i64 0, .int .i64 0, .int .i64 0, .int .i64 0, .int .i64 0, .int .i64 0, .int .i64 0, .int .i64 0, .int .i64 0, .int .i64 0, .int .i64 0] := by rw [hW1]; exact Blk.new _ _ _
 have sW1 : W1.heap.size = w.heap.size + 1 := by rw [hW1]; simp
 rw [← hW1]
 clear hW1
 obtain ⟨W2, hW2⟩ : ∃ v, v = World.alloc W1 (Obj.cells #[.int .i64 0, .int .i64 0, .int .i64 0, .int .i64 0, .int .i64 0, .int .i64 0, .int .i64 0, .int .i64 0, .int .i64 0, .int .i64 0, .int .i64 0, .int .i64 0] 75) := ⟨_, rfl⟩
 have kW2 : Below W1.heap.size W1 W2 := by rw [hW2]; exact below_new _ _
 have iW2 : Blk W2 (w.heap.size + 1) 75 [.int .i64 0, .int .i64 0, .int .i64 0, .int .i64 0, .int .i64 0, .int .i64 0, .int .i64 0, .int .i64 0, .int .i64 0, .int .i64 0, .int .i64 0, .int .i64 0] := by rw [hW2, ← sW1]; exact Blk.new _ _ _
 have sW2 : W2.heap.size = w.heap.size + 1 + 1 := by rw [hW2]; simp [sW1]
 rw [← hW2]
 clear hW2
 have i2 : BlkI W2 w.heap.size 75 (List.replicate 12 0) := iW1.carry kW2
 have i3 : BlkI W2 (w.heap.size + 1) 75 (List.replicate 12 0) := iW2
 have hB : Below w.heap.size w W2 := bthen kW1 kW2
 have hs2 : w.heap.size + 1 < W2.heap.size := Blk.lt i3
 replace hv := hv.carry hB
 clear iW1 iW2 kW1 kW2 sW1 sW2
 go_wp2_with fail
 refine (TG.out W2 hv).mono ?_
 rintro e w3 ⟨⟨u, rfl, hu⟩, hb3⟩
 have i2 := i2.carry hb3
 have i3 := i3.carry hb3
 rw [← swR_zero l] at i3
 have hB3 := bthen hB hb3
 obtain ⟨ua, uc, rfl⟩ := own_slice hu
 rw [show (changesL l).length = l.length - 1 from upto_length _ _] at hu ⊢
 obtain ⟨M, hM⟩ : ∃ M, M = l.length - 1 := ⟨_, rfl⟩
 rw [← hM] at hu ⊢
 have HM := Lib.hid hM
 have hM9 : M ≤ 1000000 := by omega
 clear hM hB hb3 hv TG hl
 have hsz := hu.base (Nat.le_refl _)
 clear hsz
 go_wp2_with fail
 go_loopw [10] (fun i wx => ∃ k : Nat, k ≤ M ∧ i = .int .i64 k ∧ BlkI wx (w.heap.size + 1) 75 (swR l k 0) ∧ BlkI wx w.heap.size 75 (List.replicate 12 0) ∧ OwnI 3 W2.heap.size wx (.slice ua M uc) (changesL l) ∧ Below w.heap.size w wx) (fun i _ => M - (intOf i).toNat)
 case atStart => exact ⟨0, by omega, rfl, i3, i2, hu, hB3⟩
 case round =>
  clear i3 i2 hu hB3
  obtain ⟨k, hk, rfl, i3, i2, hu, hbel⟩ := hrel
  by_cases hlt : k < M
  ·obtain ⟨g, cap, he, hcs⟩ := hu.cells (by rw [show (changesL l).length = l.length - 1 from upto_length _ _, ← HM.out]; omega)
   simp only [Value.slice.injEq] at he
   obtain ⟨rfl, -, rfl⟩ := he
   have c0 := hcs k (by rw [show (changesL l).length = l.length - 1 from upto_length _ _, ← HM.out]; exact hlt)
   have hxe : (changesL l)[k]?.getD 0 = chgV l k := by
    unfold changesL
    rw [upto_get _ _ _ (by rw [← HM.out]; exact hlt)]; rfl
   rw [hxe] at c0
   have hxr := chgV_rng HOK.out k
   obtain ⟨x, hx⟩ : ∃ x, x = chgV l k := ⟨_, rfl⟩
   rw [← hx] at c0 hxr
   have HX := Lib.hid hx
   have HXR := Lib.hid hxr
   have e6 : (k : Int) < (M : Int) := by omega
   clear hcs hxe hx hxr
   go_wp2_with fail
   go_loopw [14] (fun i wx => ∃ j : Nat, j ≤ 12 ∧ i = .int .i64 j ∧ BlkI wx (w.heap.size + 1) 75 (swR l k j) ∧ BlkI wx w.heap.size 75 (List.replicate 12 0) ∧ OwnI 3 W2.heap.size wx (.slice (some ⟨g, 0, none⟩) M uc) (changesL l) ∧ Below w.heap.size w wx) (fun i _ => 12 - (intOf i).toNat)
   case atStart => exact ⟨0, by omega, rfl, i3, i2, hu, hbel⟩
   case round =>
    clear i3 i2 hu hbel c0
    obtain ⟨j, hj, rfl, i3, i2, hu, hbel⟩ := hrel
    by_cases hj2 : j < 12
    ·have hat := swR_at l k j hj2
     have hset := swR_set l k j
     have hrg := swS_rng l j k
     have q1 := bit_and j HXR.out
     have hbr := bitV_rng x j
     rw [← HX.out] at hset
     have c3 : wr.cell? ⟨w.heap.size + 1, j, none⟩ = some (.int .i64 (swS l j k)) := by
      have := BlkI.cell i3 (j := j) (by rw [swR_len]; exact hj2)
      rw [hat] at this; exact this
     obtain ⟨S, hS⟩ : ∃ S, S = swS l j k := ⟨_, rfl⟩
     obtain ⟨bv, hbv⟩ : ∃ b, b = bitV x j := ⟨_, rfl⟩
     obtain ⟨R, hR⟩ : ∃ R, R = swR l k j := ⟨_, rfl⟩
     rw [← hS] at c3 hset hrg
     rw [← hbv] at q1 hset hbr
     rw [← hR] at i3 hset
     obtain ⟨y, hy⟩ : ∃ y, y = S + bv := ⟨_, rfl⟩
     have q2 : IntKind.i64.wrap (S + bv) = y := by rw [hy]; exact IntWalk.i64_in _ (by omega)
     rw [← hy] at hset
     have HSET := Lib.hid hset
     have f3 := Blk.frozen i3 j
     have hj3 : (j : Int) < 12 := by omega
     have hB1 : w.heap.size ≤ w.heap.size + 1 := by omega
     have hB2 : w.heap.size ≠ w.heap.size + 1 := by omega
     clear hat hset hrg hbr hS hbv hR hy
     go_upto_region 8 with fail
     refine wp_region_E 9 (by kernel_rfl) ?_
     obtain ⟨wz, hwz⟩ : ∃ v, v = wr.drew := ⟨_, rfl⟩
     rw [← hwz]
     have hlz : Below wr.heap.size wr wz := by rw [hwz]; exact (Below.refl _ _).drew
     have hbz := bthen hbel hlz
     have c3 := cellb c3 hlz
     have i3 := i3.carry hlz
     have i2 := i2.carry hlz
     have hu := hu.carry hlz
     clear hwz hlz
     refine zV 0 ⟨some 17, .move (.tmp 6), 3, "valve.go:344", #[], none⟩ rfl ?_
     simp only [Act.put, zS]
     refine zV 1 ⟨some 18, .indexAddr 75 (.tmp 3) (.tmp 17), 0, "valve.go:344", #[⟨0, .data⟩], none⟩ rfl ?_
     simp only [Act.put, zS]
     refine zV 2 ⟨some 19, .load 3 (.tmp 18), 3, "valve.go:344", #[⟨1, .data⟩], none⟩ rfl ?_ (hv := fun w hE => by have c3 := cellb c3 hE; (try dsimp only); go_simp; try rfl)
     simp only [Act.put, zS]
     refine zV 3 ⟨some 20, .move (.tmp 5), 3, "valve.go:344", #[], none⟩ rfl ?_
     simp only [Act.put, zS]
     refine zV 4 ⟨some 21, .move (.tmp 6), 3, "valve.go:344", #[], none⟩ rfl ?_
     simp only [Act.put, zS]
     refine zV 5 ⟨some 22, .binOp .shr 3 (.tmp 20) (.tmp 21) 3, 3, "valve.go:344", #[⟨3, .data⟩, ⟨4, .data⟩], none⟩ rfl ?_
     simp only [Act.put, zS]
     refine zV 6 ⟨some 23, .binOp .and 3 (.tmp 22) (.const (.int .i64 1)) 3, 3, "valve.go:344", #[⟨5, .data⟩], none⟩ rfl ?_
     simp only [Act.put, zS]
     refine zV 7 ⟨some 24, .binOp .add 3 (.tmp 19) (.tmp 23) 3, 3, "valve.go:344", #[⟨2, .data⟩, ⟨6, .data⟩], none⟩ rfl ?_
     simp only [Act.put, zS]
     refine zV 8 ⟨some 25, .indexAddr 75 (.tmp 3) (.tmp 17), 0, "valve.go:344", #[⟨0, .data⟩, ⟨0, .phase⟩, ⟨1, .phase⟩, ⟨2, .phase⟩, ⟨3, .phase⟩, ⟨4, .phase⟩, ⟨5, .phase⟩, ⟨6, .phase⟩, ⟨7, .phase⟩], none⟩ rfl ?_
     simp only [Act.put, zS]
     refine wpAnyE_one (i := 9) (o := ⟨none, .store 3 (.tmp 25) (.tmp 24), 0, "valve.go:344", #[⟨8, .data⟩, ⟨7, .data⟩, ⟨0, .phase⟩, ⟨1, .phase⟩, ⟨2, .phase⟩, ⟨3, .phase⟩, ⟨4, .phase⟩, ⟨5, .phase⟩, ⟨6, .phase⟩, ⟨7, .phase⟩], none⟩) (by kernel_rfl) rfl (fun wy1 hE K hK => ?_)
     have c3 := cellb c3 hE
     have i3 := i3.carry hE
     have i2 := i2.carry hE
     have hu := hu.carry hE
     have hbz1 := bthen hbz hE
     clear hE
     have fF := Blk.frozen i3 j
     go_simp
     obtain ⟨wx1, hwz⟩ : ∃ v, v = (wy1.setCell ⟨w.heap.size + 1, j, none⟩ (.int .i64 y)) := ⟨_, rfl⟩
     rw [← hwz]
     have hcz1 : Below w.heap.size w wx1 := by rw [hwz]; exact (hbz1).setCell hB1 _
     have i3 := BlkI.set i3 j y
     rw [← hwz] at i3
     have i2 := Blk.other i2 hB2 (j := j) (.int .i64 y)
     rw [← hwz] at i2
     have hu := hu.setF (j := j) (x := .int .i64 y) hs2
     rw [← hwz] at hu
     clear hwz
     refine hK _ _ (fun h => absurd rfl h) ?_
     clear hK K
     try simp only [Act.put, zS]
     refine wpAnyE_done (by kernel_rfl) (fun wy2 hE => ?_) _
     have hbz2 := bthen hcz1 hE
     have i3 := i3.carry hE
     have i2 := i2.carry hE
     have hu := hu.carry hE
     clear hE
     have hbel := hbz2
     obtain ⟨W9, hW9⟩ : ∃ v, v = wy2 := ⟨_, rfl⟩
     rw [← hW9] at hbel i3 i2 hu ⊢
     clear hW9
     rw [HSET.out] at i3
     clear c3 q1 q2 f3
     go_wp2
     go_roundw
     case rel => exact ⟨j + 1, by omega, by go_num, i3, i2, hu, hbel⟩
     case measure => simp [intOf]; omega
    ·obtain rfl : j = 12 := by omega
     rw [swR_end] at i3
     go_wp2
     go_roundw
     case rel => exact ⟨k + 1, by omega, by go_num, i3, i2, hu, hbel⟩
     case measure => simp [intOf]; omega
  ·have hkM : k = M := by omega
   have e6 : ¬ (k : Int) < (M : Int) := by omega
   rw [hkM, HM.out, swR_last] at i3
   clear hu hkM hlt
   have hld := load12 (show (swL l).length = 12 from upto_length _ _) i3
   have hlen : (List.replicate 12 (0 : Int)).length = (swL l).length := by rw [show (swL l).length = 12 from upto_length _ _]; rfl
   have hinf : (Tryz.prog.info? 75).map (·.size) = some (swL l).length := by rw [show (swL l).length = 12 from upto_length _ _]; exact Tryz.infoA12
   have hr2 : BlkI (wr.setRow w.heap.size (ia (swL l))) w.heap.size 75 (swL l) := BlkI.setRowA i2 _
   have hld2 := load12 (show (swL l).length = 12 from upto_length _ _) hr2
   go_wp2_with (first | refine wpList_load rfl _ _ rfl hld ?_ | refine wpList_storeA rfl _ _ _ rfl w.heap.size (swL l) _ rfl rfl i2 hlen hinf ?_)
   exact bodyPost_ret (v := .agg (ia (swL l))) (results_cell (p := 2) rfl _ _ w.heap.size _ rfl hld2) rfl ⟨rfl, below_rowA hbel (Nat.le_refl _) _⟩
def swOr (l : List P2) : List Int := if trainE l = 0 then swL l else List.replicate 12 0
theorem swL_len (l : List P2) : (swL l).length = 12 := upto_length _ _
set_option maxRecDepth 100000 in
set_option maxHeartbeats 2000000 in
theorem Switchings_any (v : Value) (l : List P2) (w : World) (hl : l.length ≤ 1000000) (hv : Prs w v l) :
 Calls Tryz.prog 31 #[v] w fun r w' => r = .returned (.tuple #[.agg (ia (swOr l)), .int .i64 (trainE l)]) ∧ Below w.heap.size w w' := by
 have TC := Lib.hid (fun W (h : Prs W v l) => CheckTrain_any v l W (by omega) h)
 have TS := Lib.hid (fun W (hok : TrOk l) (h : Prs W v l) => switchings_any v l W hl hok h)
 have hok := fun h : trainE l = 0 => trainE_ok h
 have hr1 : trainE l = 0 → swOr l = swL l := fun h => by unfold swOr; rw [if_pos h]
 have hr2 : trainE l ≠ 0 → swOr l = List.replicate 12 0 := fun h => by unfold swOr; rw [if_neg h]
 have hinf : (Tryz.prog.info? 75).map (·.size) = some 12 := Tryz.infoA12
 obtain ⟨E, hE⟩ : ∃ E, E = trainE l := ⟨_, rfl⟩
 have hsl : (swOr l).length = 12 := by unfold swOr; split <;> simp [swL_len]
 rw [← hE] at TC hok hr1 hr2 ⊢
 obtain ⟨R, hR⟩ : ∃ R, R = swOr l := ⟨_, rfl⟩
 rw [← hR] at hr1 hr2 hsl ⊢
 have HOK := Lib.hid hok
 have HR1 := Lib.hid hr1
 have HR2 := Lib.hid hr2
 clear hE hok hr1 hr2 hR
 go_enter Tryz.func31, Tryz.ntmps31
 go_upto_region 1 with fail
 obtain ⟨W1, hW1⟩ : ∃ v, v = World.alloc w (Obj.cells #[.int .i64 0, .int .i64 0, .int .i64 0, .int .i64 0, .int .i64 0, .int .i64 0, .int .i64 0, .int .i64 0, .int .i64 0, .int .i64 0, .int .i64 0, .int .i64 0] 75) := ⟨_, rfl⟩
 have kW1 : Below w.heap.size w W1 := by rw [hW1]; exact below_new _ _
 have iW1 : BlkI W1 (w.heap.size) 75 (List.replicate 12 0) := by rw [hW1]; exact BlkI.new w 75 (List.replicate 12 0)
 have sW1 : W1.heap.size = w.heap.size + 1 := by rw [hW1]; simp
 rw [← hW1]
 clear hW1
 have hB := kW1
 replace hv := hv.carry kW1
 clear kW1
 go_wp2_with fail
 refine (TC.out W1 hv).mono ?_
 rintro e w2 ⟨rfl, hb2⟩
 have i1 := iW1.carry hb2
 replace hv := hv.carry hb2
 replace hB := bthen hB hb2
 clear iW1 hb2 TC
 by_cases h0 : E = 0
 ·subst h0
  rw [← HR1.out rfl] at TS
  go_wp2_with fail
  refine (TS.out w2 (HOK.out (by trivial)) hv).mono ?_
  rintro e w3 ⟨rfl, hb3⟩
  replace i1 := i1.carry hb3
  replace hB := bthen hB hb3
  have hlen : (List.replicate 12 (0 : Int)).length = R.length := by rw [hsl]; rfl
  have hinf2 : (Tryz.prog.info? 75).map (·.size) = some R.length := by rw [hsl]; exact hinf
  have i2 : BlkI (w3.setRow w.heap.size (ia R)) w.heap.size 75 R := BlkI.setRowA i1 _
  have hld := load12 hsl i2
  clear TS hb3
  go_wp2_with (refine wpList_storeA rfl _ _ _ rfl w.heap.size R _ rfl rfl i1 hlen hinf2 ?_)
  exact bodyPost_ret (v := .tuple #[.agg (ia R), .int .i64 0]) (results_cell_tmp (p := 2) (q := 3) rfl _ _ w.heap.size _ rfl _ rfl hld) rfl ⟨rfl, below_rowA hB (Nat.le_refl _) _⟩
 ·have z : (E == 0) = false := by rw [beq_eq_false_iff_ne]; exact h0
  have hR := HR2.out h0
  have hia : (#[.int .i64 0, .int .i64 0, .int .i64 0, .int .i64 0, .int .i64 0, .int .i64 0, .int .i64 0, .int .i64 0, .int .i64 0, .int .i64 0, .int .i64 0, .int .i64 0] : Array Value) = ia R := by rw [hR]; rfl
  have hlen : (List.replicate 12 (0 : Int)).length = R.length := by rw [hsl]; rfl
  have hinf2 : (Tryz.prog.info? 75).map (·.size) = some R.length := by rw [hsl]; exact hinf
  have i2 : BlkI (w2.setRow w.heap.size (ia R)) w.heap.size 75 R := BlkI.setRowA i1 _
  have hld := load12 hsl i2
  clear hR TS
  go_wp2_with (refine wpList_storeA rfl _ _ _ rfl w.heap.size R _ rfl (by first | exact congrArg Value.agg hia | rfl) i1 hlen hinf2 ?_)
  exact bodyPost_ret (v := .tuple #[.agg (ia R), .int .i64 E]) (results_cell_tmp (p := 2) (q := 3) rfl _ _ w.heap.size _ rfl _ rfl hld) rfl ⟨rfl, below_rowA hB (Nat.le_refl _) _⟩
end
end Go.Proofs.YtpmngcffkhbofaaGreatDoor

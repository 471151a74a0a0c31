/- The reference of chapter 7: Prices. -/
import Derived.Test.YtjcmohfpenfepaaGreatDoorVmC
namespace Go.Proofs.YtjcmohfpenfepaaGreatDoor
set_option linter.unusedSimpArgs false
set_option linter.unusedVariables false
open Go.RowKit
theorem minW_snoc (l : List Int) (x : Int) : minW (l ++ [x]) = if l = [] then x else if x < minW l then x else minW l := by
 have pre : ∀ (a b : List Int) (k : Nat), k < a.length → minN (a ++ b) k = minN a k := by
  intro a b k
  induction k with
  | zero => intro h; simp only [minN]; rw [List.getElem?_append_left h]
  | succ k ih =>
    intro h
    simp only [minN]
    rw [List.getElem?_append_left h, ih (by omega)]
 by_cases h : l = []
 ·subst h; simp [minW, minN]
 ·rw [if_neg h]
  have hl : 0 < l.length := List.length_pos_iff.2 h
  unfold minW
  rw [List.length_append, List.length_singleton, show l.length + 1 - 1 = (l.length - 1) + 1 by omega]
  simp only [minN]
  rw [pre l [x] _ (by omega), List.getElem?_append_right (by omega), show l.length - 1 + 1 - l.length = 0 by omega]
  rfl
/-- the priced outages among the first j that are permitted for a module. -/
def lowL (os : List I3) (ms : List Mo) (ps : List Int) (m : Mo) (j : Nat) : List Int := ((os.take j).filter fun o => perB o m).map fun o => o.2.2 - chgS o ms ps
theorem lowL_succ (os : List I3) (ms : List Mo) (ps : List Int) (m : Mo) (j : Nat) (x : I3) (h : os[j]? = some x) : lowL os ms ps m (j + 1) = lowL os ms ps m j ++ (if perB x m = true then [x.2.2 - chgS x ms ps] else []) := by
 unfold lowL
 rw [List.take_add_one, h, List.filter_append, List.map_append]
 congr 1
 by_cases hp : perB x m = true
 ·simp [hp]
 ·simp [hp]
theorem lowL_all (os : List I3) (ms : List Mo) (k : Nat) (m : Mo) (h : ms[k]? = some m) : lowL os ms (priK ms os k) m os.length = priL ms os k (priK ms os k) := by
 unfold lowL priL permL
 rw [List.take_length, h]; rfl
def anyN (l : List Int) : Bool := !l.isEmpty
set_option maxRecDepth 100000 in
set_option maxHeartbeats 16000000 in
theorem PricesR_any (vm vo : Value) (ms : List Mo) (os : List I3) (w : World) (hb : bothE ms os = 0) (hm : Rw 4 mV w vm ms) (ho : Rw 3 iV w vo os) :
 Calls Tryz.prog 34 #[vm, vo] w fun r w' => (∃ u, r = .returned (.tuple #[u, .int .i64 (priE ms os)]) ∧ Ints w' u (priR ms os)) ∧ Below w.heap.size w w' := by
 obtain ⟨i0, hi, hz0, hz1, hz2⟩ := info_parts Tryz.infZint
 have HM := Lib.hid hm
 have HO := Lib.hid ho
 obtain ⟨ma, mc, rfl, -⟩ := hm.slice
 obtain ⟨oa, oc, rfl, -⟩ := ho.slice
 have hml := (modsE_ok (bothE_ok hb).1).1
 have hol := (outE_ok (bothE_ok hb).2).1
 have hor := (outE_ok (bothE_ok hb).2).2
 have HPK := Lib.hid (fun (k : Nat) (hk : k ≤ ms.length) (h : ∀ j, j < k → permL os (ms[j]?.getD noM) ≠ []) => priK_ok (ms := ms) (os := os) (fun o ho => (hor o ho).2.2) k hk h)
 have HCR := Lib.hid (fun (ps : List Int) (h : ∀ x ∈ ps, -1000000000 ≤ x ∧ x ≤ 1000000000) (o : I3) (k : Nat) => chgK_rng o ms ps h k)
 have HCS := Lib.hid (fun (ps : List Int) (o : I3) (k : Nat) (m : Mo) (x : Int) (hm : ms[k]? = some m) (hx : ps[k]? = some x) => (show chgK o ms ps (k + 1) = chgK o ms ps k + (if perB o m = true then x else 0) by simp only [chgK]; rw [hm, hx]; rfl))
 have HY := Lib.hid (fun (h : ∀ j, j < ms.length → permL os (ms[j]?.getD noM) ≠ []) => (show priE ms os = 0 ∧ priR ms os = priK ms os ms.length by
  have e : priE ms os = 0 := by unfold priE; rw [if_pos hb, priB_none h]; rfl
  exact ⟨e, by unfold priR; rw [if_pos e]⟩))
 have HNo := Lib.hid (fun (k : Nat) (m : Mo) (hk : ms[k]? = some m) (h : permL os m = []) => (show priE ms os = 18 ∧ priR ms os = [] by
  have e : priE ms os = 18 := by unfold priE; rw [if_pos hb, if_pos (priB_at hk h)]
  exact ⟨e, by unfold priR; rw [if_neg (by rw [e]; decide)]⟩))
 have HOX := Lib.hid (fun o ho => (hor o ho).2.2)
 obtain ⟨E, hE⟩ : ∃ e, e = priE ms os := ⟨_, rfl⟩
 obtain ⟨R, hR⟩ : ∃ e, e = priR ms os := ⟨_, rfl⟩
 rw [← hE, ← hR] at HY HNo ⊢
 obtain ⟨NM, hNM⟩ : ∃ N, N = ms.length := ⟨_, rfl⟩
 obtain ⟨NO, hNO⟩ : ∃ N, N = os.length := ⟨_, rfl⟩
 rw [← hNM] at HM hml HPK HY ⊢
 rw [← hNO] at HO hol ⊢
 have HNM := Lib.hid hNM
 have HNO := Lib.hid hNO
 clear hm ho hNM hNO hE hR hb hor
 go_enter Tryz.func34, Tryz.ntmps34
 go_wp2_with fail
 go_loopw [6, 7] (fun u i wr => ∃ k : Nat, k ≤ NM ∧ i = .int .i64 k ∧ (∀ j, j < k → permL os (ms[j]?.getD noM) ≠ []) ∧ wr.ownsRow w.heap.size 3 1 u k ((priK ms os k).map (Value.int .i64)) ∧ Below w.heap.size w wr) (fun _ i _ => NM - (intOf i).toNat)
 case atStart => exact ⟨0, by omega, rfl, fun j hj => by omega, World.ownsRow_nil _ _ _ _, Below.refl _ _⟩
 case round =>
  obtain ⟨k, hk, rfl, hpm, hown, hbel⟩ := hrel
  have HPM := Lib.hid hpm
  clear hpm
  by_cases hlt : k < NM
  ·have hdk : (k : Int) < (NM : Int) := by omega
   obtain ⟨m, hmk⟩ : ∃ m, ms[k]? = some m := ⟨_, List.getElem?_eq_getElem (by rw [← HNM.out]; exact hlt)⟩
   obtain ⟨h1, h2⟩ := HPK.out k (by omega) HPM.out
   have HMK := Lib.hid hmk
   have HLA := Lib.hid (lowL_all os ms k m hmk)
   have HPL := Lib.hid (show (priK ms os k).length = k from priK_len ms os k)
   obtain ⟨PS, hPS⟩ : ∃ l, l = priK ms os k := ⟨_, rfl⟩
   rw [← hPS] at h1 h2 HPL HLA hown
   have HPS := Lib.hid hPS
   have HR1 := Lib.hid (HCR.out PS (fun x hx => by have := h1 x hx; omega))
   have HCS1 := Lib.hid (HCS.out PS)
   have HSX := Lib.hid (fun (o : I3) => (show chgS o ms PS = chgK o ms PS k by unfold chgS; rw [HPL.out]))
   obtain ⟨ua, uc, rfl⟩ := own_slice hown
   obtain ⟨W1, hW1⟩ : ∃ v, v = wr := ⟨_, rfl⟩
   rw [← hW1] at hbel hown ⊢
   have HB1 := Lib.hid hbel
   have HOWN := Lib.hid hown
   clear hmk h1 h2 hPS hW1 hbel hown
   go_wp2_with fail
   go_loopw [8, 9, 10] (fun p s i wy => ∃ j : Nat, j ≤ NO ∧ i = .int .i64 j ∧ p = .int .i64 (minW (lowL os ms PS m j)) ∧ s = .bool (anyN (lowL os ms PS m j)) ∧ Below W1.heap.size W1 wy) (fun _ _ i _ => NO - (intOf i).toNat)
   case atStart => exact ⟨0, by omega, rfl, rfl, rfl, Below.refl _ _⟩
   case round =>
    obtain ⟨j, hj, rfl, rfl, rfl, hbj⟩ := hrel
    by_cases hjlt : j < NO
    ·have hdj : (j : Int) < (NO : Int) := by omega
     obtain ⟨x, hx⟩ : ∃ x, os[j]? = some x := ⟨_, List.getElem?_eq_getElem (by rw [← HNO.out]; exact hjlt)⟩
     have hls := lowL_succ os ms PS m j x hx
     have hxr := HOX.out x (List.mem_of_getElem? hx)
     have HX := Lib.hid hx
     have hbb := bthen HB1.out hbj
     obtain ⟨mb, mo, mcap, hme, hmcs⟩ := (HM.out.carry hbb).head (by rw [← HNM.out]; omega)
     simp only [Value.slice.injEq] at hme
     obtain ⟨rfl, -, rfl⟩ := hme
     obtain ⟨m0, m1, m2, m3⟩ := rw4 (hmcs k m HMK.out) (show mV m = [.string m.1, .int .i64 m.2.1, .int .i64 m.2.2.1, .int .i64 m.2.2.2] from rfl)
     obtain ⟨ob, oo, ocap, he, hcs⟩ := (HO.out.carry hbb).head (by rw [← HNO.out]; omega)
     simp only [Value.slice.injEq] at he
     obtain ⟨rfl, -, rfl⟩ := he
     obtain ⟨c0, c1, c2⟩ := rw3 (hcs j x hx) (show iV x = [.int .i64 x.1, .int .i64 x.2.1, .int .i64 x.2.2] from rfl)
     have TI := Lib.hid (fun W => IsPermitted_any x.1 x.2.1 x.2.2 m.1 m.2.1 m.2.2.1 m.2.2.2 W)
     obtain ⟨pb2, hpb⟩ : ∃ b, b = perB x m := ⟨_, rfl⟩
     have TI2 : Hid (∀ W, Calls Tryz.prog 101 #[.agg #[.string m.1, .int .i64 m.2.1, .int .i64 m.2.2.1, .int .i64 m.2.2.2], .agg #[.int .i64 x.1, .int .i64 x.2.1, .int .i64 x.2.2]] W fun r w' => r = .returned (.bool pb2) ∧ Below W.heap.size W w') := by rw [hpb]; exact TI
     rw [← hpb] at hls
     obtain ⟨L, hL⟩ : ∃ l, l = lowL os ms PS m j := ⟨_, rfl⟩
     rw [← hL] at hls ⊢
     obtain ⟨pr, hpr⟩ : ∃ p, p = minW L := ⟨_, rfl⟩
     obtain ⟨sm, hsm⟩ : ∃ p, p = anyN L := ⟨_, rfl⟩
     rw [← hpr, ← hsm]
     have HLS := Lib.hid hls
     have HPR := Lib.hid hpr
     have HSM := Lib.hid hsm
     obtain ⟨z0, hz0'⟩ : ∃ z, z = m.1 := ⟨_, rfl⟩
     obtain ⟨z1, hz1'⟩ : ∃ z, z = m.2.1 := ⟨_, rfl⟩
     obtain ⟨z2, hz2'⟩ : ∃ z, z = m.2.2.1 := ⟨_, rfl⟩
     obtain ⟨z3, hz3'⟩ : ∃ z, z = m.2.2.2 := ⟨_, rfl⟩
     rw [← hz0', ← hz1', ← hz2', ← hz3'] at TI2
     rw [← hz0'] at m0
     rw [← hz1'] at m1
     rw [← hz2'] at m2
     rw [← hz3'] at m3
     obtain ⟨y0, hy0'⟩ : ∃ z, z = x.1 := ⟨_, rfl⟩
     obtain ⟨y1, hy1'⟩ : ∃ z, z = x.2.1 := ⟨_, rfl⟩
     obtain ⟨y2, hy2'⟩ : ∃ z, z = x.2.2 := ⟨_, rfl⟩
     rw [← hy0', ← hy1', ← hy2'] at TI2
     rw [← hy0'] at c0
     rw [← hy1'] at c1
     rw [← hy2'] at c2 hxr
     have HY2 := Lib.hid hy2'
     clear hls hpr hsm hL hpb hmcs hcs hx TI hz0' hz1' hz2' hz3' hy0' hy1' hy2'
     go_upto_region 9 with fail
     refine wp_region_E 99 (by kernel_rfl) ?_
     obtain ⟨wz, hwz⟩ : ∃ v, v = wr.drew := ⟨_, rfl⟩
     rw [← hwz]
     have hlz : Below wr.heap.size wr wz := by rw [hwz]; exact (Below.refl _ _).drew
     have hbz := bthen hbj hlz
     have c0 := cellb c0 hlz
     have c1 := cellb c1 hlz
     have c2 := cellb c2 hlz
     have m0 := cellb m0 hlz
     have m1 := cellb m1 hlz
     have m2 := cellb m2 hlz
     have m3 := cellb m3 hlz
     clear hwz hlz
     refine zV 0 ⟨some 25, .move (.tmp 0), 48, "ref.go:567", #[], none⟩ rfl ?_
     simp only [Act.put, zS]
     refine zV 1 ⟨some 26, .move (.tmp 7), 3, "ref.go:567", #[], none⟩ rfl ?_
     simp only [Act.put, zS]
     refine zV 2 ⟨some 27, .indexAddr 48 (.tmp 25) (.tmp 26), 0, "ref.go:567", #[⟨0, .data⟩, ⟨1, .data⟩], none⟩ rfl ?_
     simp only [Act.put, zS]
     refine zV 3 ⟨some 28, .load 143 (.tmp 27), 143, "ref.go:567", #[⟨2, .data⟩], none⟩ rfl ?_ (hv := fun w hE => by have c0 := cellb c0 hE; have c1 := cellb c1 hE; have c2 := cellb c2 hE; have m0 := cellb m0 hE; have m1 := cellb m1 hE; have m2 := cellb m2 hE; have m3 := cellb m3 hE; (try dsimp only); go_simp; try rfl)
     simp only [Act.put, zS]
     refine zV 4 ⟨some 29, .move (.tmp 1), 49, "ref.go:567", #[], none⟩ rfl ?_
     simp only [Act.put, zS]
     refine zV 5 ⟨some 30, .move (.tmp 10), 3, "ref.go:567", #[], none⟩ rfl ?_
     simp only [Act.put, zS]
     refine zV 6 ⟨some 31, .indexAddr 49 (.tmp 29) (.tmp 30), 0, "ref.go:567", #[⟨4, .data⟩, ⟨5, .data⟩], none⟩ rfl ?_
     simp only [Act.put, zS]
     refine zV 7 ⟨some 32, .load 88 (.tmp 31), 88, "ref.go:567", #[⟨6, .data⟩], none⟩ rfl ?_ (hv := fun w hE => by have c0 := cellb c0 hE; have c1 := cellb c1 hE; have c2 := cellb c2 hE; have m0 := cellb m0 hE; have m1 := cellb m1 hE; have m2 := cellb m2 hE; have m3 := cellb m3 hE; (try dsimp only); go_simp; try rfl)
     simp only [Act.put, zS]
     refine zB 8 ⟨some 33, .call ⟨.value (.func 101), #[.tmp 28, .tmp 32], #[143, 88]⟩, 4, "ref.go:567", #[⟨3, .data⟩, ⟨7, .data⟩], none⟩ (fun w hE => TI2.out w) rfl ?_
     simp only [Act.put, zS]
     refine zV 9 ⟨some 34, .unOp .not 4 (.tmp 33), 4, "ref.go:567", #[⟨8, .data⟩], none⟩ rfl ?_
     simp only [Act.put, zS]
     refine wpAnyE_done (by kernel_rfl) (fun wy1 hE => ?_) _
     have hbz1 := bthen hbz hE
     have c0 := cellb c0 hE
     have c1 := cellb c1 hE
     have c2 := cellb c2 hE
     have m0 := cellb m0 hE
     have m1 := cellb m1 hE
     have m2 := cellb m2 hE
     have m3 := cellb m3 hE
     clear hE
     have hbj2 := hbz1
     obtain ⟨W9, hW9⟩ : ∃ v, v = wy1 := ⟨_, rfl⟩
     rw [← hW9] at hbj2 c2 ⊢
     clear hW9
     rename_i W9
     clear c0 c1 m0 m1 m2 m3 TI2 hbj hbb
     cases pb2 with
     | false =>
       have hl2 := HLS.out
       rw [if_neg (by decide), List.append_nil] at hl2
       have HL2 := Lib.hid hl2
       clear hl2 HLS c2
       go_wp2
       go_roundw
       case rel => exact ⟨j + 1, by omega, by go_num, by rw [HL2.out, ← HPR.out], by rw [HL2.out, ← HSM.out], hbj2⟩
       case measure => simp [intOf]; omega
     | true =>
       have HB9 := Lib.hid hbj2
       clear hbj2
       go_wp2_with fail
       clear c2
       go_loopw [11, 12] (fun u i wz => ∃ q : Nat, q ≤ k ∧ i = .int .i64 q ∧ u = .int .i64 (y2 - chgK x ms PS q) ∧ Below W9.heap.size W9 wz) (fun _ i _ => k - (intOf i).toNat)
       case atStart => exact ⟨0, by omega, rfl, by simp [chgK], Below.refl _ _⟩
       case round =>
        obtain ⟨q, hq, rfl, rfl, hbq⟩ := hrel
        have hbb := bthen HB1.out (bthen HB9.out hbq)
        by_cases hqlt : q < k
        ·have hdq : (q : Int) < (k : Int) := by omega
         have hdqm : (q : Int) < (NM : Int) := by omega
         obtain ⟨n, hn⟩ : ∃ d, ms[q]? = some d := ⟨_, List.getElem?_eq_getElem (by rw [← HNM.out]; omega)⟩
         obtain ⟨y, hy⟩ : ∃ d, PS[q]? = some d := ⟨_, List.getElem?_eq_getElem (by rw [HPL.out]; exact hqlt)⟩
         have hpi : Ints wr (.slice ua k uc) PS := by
          have := Ints.of_own (own_below (own_below HOWN.out HB9.out) hbq) (l := PS) (by rw [HPL.out])
          exact this
         obtain ⟨pb, po, pcap, hpe, hpcs⟩ := hpi.head (by rw [HPL.out]; omega)
         rw [HPL.out] at hpe
         simp only [Value.slice.injEq] at hpe
         obtain ⟨rfl, -, rfl⟩ := hpe
         have q0 := hpcs q (by rw [HPL.out]; exact hqlt)
         rw [hy, Option.getD_some] at q0
         obtain ⟨mb, mo, mcap, hme, hmcs⟩ := (HM.out.carry hbb).head (by rw [← HNM.out]; omega)
         simp only [Value.slice.injEq, Option.some.injEq, Addr.mk.injEq, true_and, and_true] at hme
         obtain ⟨⟨rfl, rfl⟩, -, rfl⟩ := hme
         obtain ⟨m0, m1, m2, m3⟩ := rw4 (hmcs q n hn) (show mV n = [.string n.1, .int .i64 n.2.1, .int .i64 n.2.2.1, .int .i64 n.2.2.2] from rfl)
         obtain ⟨ob, oo, ocap, he, hcs⟩ := (HO.out.carry hbb).head (by rw [← HNO.out]; omega)
         simp only [Value.slice.injEq, Option.some.injEq, Addr.mk.injEq, true_and, and_true] at he
         obtain ⟨⟨rfl, rfl⟩, -, rfl⟩ := he
         obtain ⟨c0, c1, c2⟩ := rw3 (hcs j x HX.out) (show iV x = [.int .i64 x.1, .int .i64 x.2.1, .int .i64 x.2.2] from rfl)
         have ht := HCS1.out x q n y hn hy
         have ht0 := HR1.out x q
         have ht1 := HR1.out x (q + 1)
         rw [ht] at ht1
         have TI := Lib.hid (fun W => IsPermitted_any x.1 x.2.1 x.2.2 n.1 n.2.1 n.2.2.1 n.2.2.2 W)
         obtain ⟨pc2, hpc⟩ : ∃ b, b = perB x n := ⟨_, rfl⟩
         have TI2 : Hid (∀ W, Calls Tryz.prog 101 #[.agg #[.string n.1, .int .i64 n.2.1, .int .i64 n.2.2.1, .int .i64 n.2.2.2], .agg #[.int .i64 x.1, .int .i64 x.2.1, .int .i64 x.2.2]] W fun r w' => r = .returned (.bool pc2) ∧ Below W.heap.size W w') := by rw [hpc]; exact TI
         rw [← hpc] at ht ht1
         obtain ⟨Z, hZ⟩ : ∃ Z, Z = chgK x ms PS q := ⟨_, rfl⟩
         rw [← hZ] at ht ht0 ht1 ⊢
         have HTT := Lib.hid ht
         have HT0 := Lib.hid ht0
         have HT1 := Lib.hid ht1
         clear hpcs hmcs hcs hy hn ht ht0 ht1 hpc hZ hpi TI
         go_upto_region 14 with fail
         refine wp_region_E 99 (by kernel_rfl) ?_
         obtain ⟨wz, hwz⟩ : ∃ v, v = wr.drew := ⟨_, rfl⟩
         rw [← hwz]
         have hlz : Below wr.heap.size wr wz := by rw [hwz]; exact (Below.refl _ _).drew
         have hbz := bthen hbq hlz
         have c0 := cellb c0 hlz
         have c1 := cellb c1 hlz
         have c2 := cellb c2 hlz
         have m0 := cellb m0 hlz
         have m1 := cellb m1 hlz
         have m2 := cellb m2 hlz
         have m3 := cellb m3 hlz
         have q0 := cellb q0 hlz
         clear hwz hlz
         refine zV 0 ⟨some 45, .move (.tmp 0), 48, "ref.go:572", #[], none⟩ rfl ?_
         simp only [Act.put, zS]
         refine zV 1 ⟨some 46, .move (.tmp 12), 3, "ref.go:572", #[], none⟩ rfl ?_
         simp only [Act.put, zS]
         refine zV 2 ⟨some 47, .indexAddr 48 (.tmp 45) (.tmp 46), 0, "ref.go:572", #[⟨0, .data⟩, ⟨1, .data⟩], none⟩ rfl ?_
         simp only [Act.put, zS]
         refine zV 3 ⟨some 48, .load 143 (.tmp 47), 143, "ref.go:572", #[⟨2, .data⟩], none⟩ rfl ?_ (hv := fun w hE => by have c0 := cellb c0 hE; have c1 := cellb c1 hE; have c2 := cellb c2 hE; have m0 := cellb m0 hE; have m1 := cellb m1 hE; have m2 := cellb m2 hE; have m3 := cellb m3 hE; have q0 := cellb q0 hE; (try dsimp only); go_simp; try rfl)
         simp only [Act.put, zS]
         refine zV 4 ⟨some 49, .move (.tmp 1), 49, "ref.go:572", #[], none⟩ rfl ?_
         simp only [Act.put, zS]
         refine zV 5 ⟨some 50, .move (.tmp 10), 3, "ref.go:572", #[], none⟩ rfl ?_
         simp only [Act.put, zS]
         refine zV 6 ⟨some 51, .indexAddr 49 (.tmp 49) (.tmp 50), 0, "ref.go:572", #[⟨4, .data⟩, ⟨5, .data⟩], none⟩ rfl ?_
         simp only [Act.put, zS]
         refine zV 7 ⟨some 52, .load 88 (.tmp 51), 88, "ref.go:572", #[⟨6, .data⟩], none⟩ rfl ?_ (hv := fun w hE => by have c0 := cellb c0 hE; have c1 := cellb c1 hE; have c2 := cellb c2 hE; have m0 := cellb m0 hE; have m1 := cellb m1 hE; have m2 := cellb m2 hE; have m3 := cellb m3 hE; have q0 := cellb q0 hE; (try dsimp only); go_simp; try rfl)
         simp only [Act.put, zS]
         refine zB 8 ⟨some 53, .call ⟨.value (.func 101), #[.tmp 48, .tmp 52], #[143, 88]⟩, 4, "ref.go:572", #[⟨3, .data⟩, ⟨7, .data⟩], none⟩ (fun w hE => TI2.out w) rfl ?_
         simp only [Act.put, zS]
         refine wpAnyE_done (by kernel_rfl) (fun wy1 hE => ?_) _
         have hbz1 := bthen hbz hE
         have c0 := cellb c0 hE
         have c1 := cellb c1 hE
         have c2 := cellb c2 hE
         have m0 := cellb m0 hE
         have m1 := cellb m1 hE
         have m2 := cellb m2 hE
         have m3 := cellb m3 hE
         have q0 := cellb q0 hE
         clear hE
         have hbq2 := hbz1
         obtain ⟨W7, hW7⟩ : ∃ v, v = wy1 := ⟨_, rfl⟩
         rw [← hW7] at hbq2 q0 ⊢
         clear hW7
         clear c0 c1 c2 m0 m1 m2 m3 TI2 hbq hbb
         cases pc2 with
         | true =>
           have h0 := HT0.out
           have h1 := HT1.out
           rw [if_pos rfl] at h1
           have hy21 : 0 ≤ y2 := hxr.1
           have hy22 : y2 ≤ 1000000 := hxr.2
           obtain ⟨D, hD⟩ : ∃ D, D = y2 - Z := ⟨_, rfl⟩
           rw [← hD]
           have hr1 : IntKind.i64.wrap (D - y) = D - y := IntWalk.i64_in _ (by omega)
           have hDr : -1000000000000 ≤ D ∧ D ≤ 1000000000000 := by omega
           have hDr1 : -1000000000000 ≤ D - y ∧ D - y ≤ 1000000000000 := by omega
           have HDD := Lib.hid hD
           clear h0 h1 HT0 HT1 hD
           go_wp2
           go_roundw
           case rel => exact ⟨q + 1, by omega, by go_num, by rw [HTT.out, if_pos rfl, HDD.out]; congr 1; omega, hbq2⟩
           case measure => simp [intOf]; omega
         | false =>
           clear HT0 HT1
           obtain ⟨D, hD⟩ : ∃ D, D = y2 - Z := ⟨_, rfl⟩
           rw [← hD]
           have HDD := Lib.hid hD
           clear hD
           go_wp2
           go_roundw
           case rel => exact ⟨q + 1, by omega, by go_num, by rw [HTT.out, if_neg (by decide), Int.add_zero, HDD.out], hbq2⟩
           case measure => simp [intOf]; omega
        ·obtain rfl : q = k := by omega
         have hdq : ¬ (q : Int) < (q : Int) := by omega
         have hl2 := HLS.out
         simp only [if_true] at hl2
         rw [← HY2.out, HSX.out] at hl2
         obtain ⟨D, hD⟩ : ∃ D, D = y2 - chgK x ms PS q := ⟨_, rfl⟩
         rw [← hD] at hl2 ⊢
         have hmn := minW_snoc L D
         rw [← hl2, ← HPR.out] at hmn
         have han : anyN (lowL os ms PS m (j + 1)) = true := by rw [hl2]; unfold anyN; cases L <;> rfl
         have hbj3 := bthen HB9.out hbq
         have hL0 : sm = false → L = [] := fun h => by
          rw [HSM.out] at h
          cases L with
          | nil => rfl
          | cons a l => cases h
         have hL1 : sm = true → L ≠ [] := fun h e => by rw [HSM.out, e] at h; cases h
         have HMN := Lib.hid hmn
         have HAN := Lib.hid han
         have HL0 := Lib.hid hL0
         have HL1 := Lib.hid hL1
         clear hl2 hD hmn han hL0 hL1 hbq hbb HLS
         cases sm with
         | false =>
           have h9 := HMN.out
           rw [if_pos (HL0.out rfl)] at h9
           have H9 := Lib.hid h9
           clear h9 HMN HL0 HL1
           go_wp2
           go_roundw
           case rel => exact ⟨j + 1, by omega, by go_num, by rw [H9.out], by rw [HAN.out], hbj3⟩
           case measure => simp [intOf]; omega
         | true =>
           have h9 := HMN.out
           rw [if_neg (HL1.out rfl)] at h9
           by_cases hlt9 : D < pr
           ·rw [if_pos hlt9] at h9
            have H9 := Lib.hid h9
            have hb0 : decide (D < pr) = true := decide_eq_true hlt9
            clear h9 HMN HL0 HL1 hlt9
            go_wp2
            go_roundw
            case rel => exact ⟨j + 1, by omega, by go_num, by rw [H9.out], by rw [HAN.out], hbj3⟩
            case measure => simp [intOf]; omega
           ·rw [if_neg hlt9] at h9
            have H9 := Lib.hid h9
            have hb0 : decide (D < pr) = false := decide_eq_false hlt9
            clear h9 HMN HL0 HL1 hlt9
            go_wp2
            go_roundw
            case rel => exact ⟨j + 1, by omega, by go_num, by rw [H9.out], by rw [HAN.out], hbj3⟩
            case measure => simp [intOf]; omega
    ·obtain rfl : j = NO := by omega
     have hdj : ¬ (j : Int) < (j : Int) := by omega
     have hla := HLA.out
     rw [← HNO.out] at hla
     rw [hla]
     have hem : anyN (priL ms os k PS) = false → permL os m = [] := fun h => by
      unfold anyN priL at h
      rw [HMK.out] at h
      simpa using h
     have hne : anyN (priL ms os k PS) = true → ∀ q, q < k + 1 → permL os (ms[q]?.getD noM) ≠ [] := fun h q hq => by
      by_cases e : q = k
      ·subst e
       rw [HMK.out]
       intro e2
       unfold anyN priL at h
       rw [HMK.out] at h
       simp only [Option.getD_some] at h e2
       rw [e2] at h
       cases h
      ·exact HPM.out q (by omega)
     have hpk : priK ms os (k + 1) = PS ++ [minW (priL ms os k PS)] := by simp only [priK]; rw [← HPS.out]
     obtain ⟨pr, hpr⟩ : ∃ p, p = minW (priL ms os k PS) := ⟨_, rfl⟩
     obtain ⟨sm, hsm⟩ : ∃ p, p = anyN (priL ms os k PS) := ⟨_, rfl⟩
     rw [← hpr] at hpk ⊢
     rw [← hsm] at hem hne ⊢
     have HEM := Lib.hid hem
     have HNE := Lib.hid hne
     have HPK2 := Lib.hid hpk
     have hbb := bthen HB1.out hbj
     have hown := own_below HOWN.out hbj
     clear hla hem hne hpk hpr hsm
     cases sm with
     | false =>
       obtain ⟨rfl, rfl⟩ := HNo.out k m HMK.out (HEM.out rfl)
       clear HNE HPK2 HEM HNo HY hown
       go_wp2
       go_ret2
       exact ⟨⟨_, rfl, Ints.nil _⟩, hbb⟩
     | true =>
       have HN2 := Lib.hid (HNE.out rfl)
       have hs9 := hbb.size
       have hk8 : k ≤ 8 := by omega
       clear HNE HEM
       go_wp2_with (at_builtin; refine wpList_append_own _ rfl _ _ 41 rfl w.heap.size 3 i0 (.int .i64 0) 1 8 Tryz.undZint hi hz0 hz1 hz2 rfl (by decide) (.slice ua k uc) k _ rfl (own_below hown (below_new _ _)) ⟨wr.heap.size, 0, none⟩ 1 1 [.int .i64 pr] rfl rfl (cell_one_new _ _ _) (by simp [Value.oneCell']) (by unfold maxLen; omega) (by omega) (by simp; omega) ?_; intro v7 w8 hown' hgrow _)
       have hb8 : Below w.heap.size w w8 := (bthen hbb (below_new wr (.cells #[.int .i64 pr] 3))).trans (below_grow (own_below hown (below_new _ _)) (by have := hbb.size; simp; omega) hgrow)
       have hown9 : w8.ownsRow w.heap.size 3 1 v7 (k + 1) ((priK ms os (k + 1)).map (Value.int .i64)) := by
        rw [HPK2.out, List.map_append]; exact hown'
       clear hown' hgrow hown hbb hbj
       go_wp2
       go_roundw
       case rel => exact ⟨k + 1, by omega, by go_num, HN2.out, hown9, hb8⟩
       case measure => simp [intOf]; omega
  ·obtain rfl : k = NM := by omega
   have hdk : ¬ (k : Int) < (k : Int) := by omega
   obtain ⟨rfl, hR⟩ := HY.out HPM.out
   have hin : Ints wr u6 R := by
    rw [hR]
    exact Ints.of_own hown (by rw [priK_len])
   clear hown hR
   go_wp2
   go_ret2
   exact ⟨⟨_, rfl, hin⟩, hbel⟩
end Go.Proofs.YtjcmohfpenfepaaGreatDoor

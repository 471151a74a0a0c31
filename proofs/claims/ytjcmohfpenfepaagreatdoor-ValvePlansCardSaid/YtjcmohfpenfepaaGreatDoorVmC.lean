/- The reference of chapter 7: CheckPrices. -/
import Derived.Test.YtjcmohfpenfepaaGreatDoorVmB
namespace Go.Proofs.YtjcmohfpenfepaaGreatDoor
set_option linter.unusedSimpArgs false
set_option linter.unusedVariables false
open Go.RowKit
theorem prE_at {ms : List Mo} {os : List I3} {ps : List Int} (hb : bothE ms os = 0) :
 (ps.length ≠ ms.length → prE ms os ps = 2 ∧ prR ms os ps = 0) ∧
 (ps.length = ms.length → prE2 ps ≠ 0 → prE ms os ps = prE2 ps ∧ prR ms os ps = 0) ∧
 (ps.length = ms.length → prE2 ps = 0 → prA ms os ps = true → prE ms os ps = 19 ∧ prR ms os ps = 0) ∧
 (ps.length = ms.length → prE2 ps = 0 → prA ms os ps = false → prE ms os ps = 0 ∧ prR ms os ps = sumK ps ps.length) := by
 have h1 : ps.length ≠ ms.length → prE1 ms os ps = 2 := fun h => by
  unfold prE1
  rw [hb, show ((ps.length : Int) != (ms.length : Int)) = true by rw [bne_iff_ne]; omega]; rfl
 have h0 : ps.length = ms.length → prE1 ms os ps = 0 := fun h => by
  unfold prE1
  rw [hb, show ((ps.length : Int) != (ms.length : Int)) = false by rw [bne_eq_false_iff_eq]; omega]; rfl
 refine ⟨fun h => ?_, fun h h' => ?_, fun h h' h'' => ?_, fun h h' h'' => ?_⟩
 ·have e : prE ms os ps = 2 := by unfold prE; rw [if_neg (by rw [h1 h]; decide), h1 h]
  exact ⟨e, by unfold prR; rw [if_neg (by rw [e]; decide)]⟩
 ·have e : prE ms os ps = prE2 ps := by unfold prE; rw [if_pos (h0 h), if_neg h']
  exact ⟨e, by unfold prR; rw [if_neg (by rw [e]; exact h')]⟩
 ·have e : prE ms os ps = 19 := by unfold prE; rw [if_pos (h0 h), if_pos h', if_pos h'']
  exact ⟨e, by unfold prR; rw [if_neg (by rw [e]; decide)]⟩
 ·have e : prE ms os ps = 0 := by unfold prE; rw [if_pos (h0 h), if_pos h', h'']; rfl
  exact ⟨e, by unfold prR; rw [if_pos e]⟩
theorem sumK_part {ps : List Int} {k : Nat} (h : ∀ j x, j < k → ps[j]? = some x → 0 ≤ x ∧ x ≤ 1000000) : ∀ j, j ≤ k → 0 ≤ sumK ps j ∧ sumK ps j ≤ 1000000 * (j : Int)
 | 0, _ => by simp [sumK]
 | j + 1, hj => by
   have ih := sumK_part h j (by omega)
   simp only [sumK]
   cases e : ps[j]? with
   | none => simp; omega
   | some x => have := h j x (by omega) e; simp only [Option.getD_some]; omega
set_option maxRecDepth 100000 in
set_option maxHeartbeats 8000000 in
theorem CheckPricesR_any (vm vo vp : Value) (ms : List Mo) (os : List I3) (ps : List Int) (w : World) (hb : bothE ms os = 0) (hpl : ps.length ≤ 1000) (hm : Rw 4 mV w vm ms) (ho : Rw 3 iV w vo os) (hp : Ints w vp ps) :
 Calls Tryz.prog 35 #[vm, vo, vp] w fun r w' => r = .returned (.tuple #[.int .i64 (prR ms os ps), .int .i64 (prE ms os ps)]) ∧ Below w.heap.size w w' := by
 have HM := Lib.hid hm
 have HO := Lib.hid ho
 have HP := Lib.hid hp
 obtain ⟨ma, mc, rfl, -⟩ := hm.slice
 obtain ⟨oa, oc, rfl, -⟩ := ho.slice
 obtain ⟨pa, pc, hpe, -⟩ := id hp
 subst hpe
 have hml := (modsE_ok (bothE_ok hb).1).1
 have hol := (outE_ok (bothE_ok hb).2).1
 have hor := (outE_ok (bothE_ok hb).2).2
 obtain ⟨h1, h2, h3, h4⟩ := prE_at (ps := ps) hb
 obtain ⟨G, hG⟩ : ∃ g : Nat → Int → Int, g = fun _ n => withinE n 0 1000000 := ⟨_, rfl⟩
 have hGv : ∀ k n, G k n = withinE n 0 1000000 := fun k n => by rw [hG]
 have HS := Lib.hid (fun (k : Nat) (x : Int) (hx : ps[k]? = some x) (h : firstE ((ps.mapIdx G).take k) = 0) => eachE_step hx h)
 have HT := Lib.hid (fun (k : Nat) (x : Int) (hx : ps[k]? = some x) (h : firstE ((ps.mapIdx G).take k) = 0) (hne : G k x ≠ 0) => (show prE2 ps = G k x by have := eachE_stop hx h hne; rw [hG] at this ⊢; exact this))
 have HE := Lib.hid (fun (h : firstE ((ps.mapIdx G).take ps.length) = 0) => (show prE2 ps = 0 by have := eachE_end h; rw [hG] at this; exact this))
 have HRG := Lib.hid (fun (h : prE2 ps = 0) => (show ∀ x ∈ ps, -1000000000 ≤ x ∧ x ≤ 1000000000 from fun x hx => by
  obtain ⟨i, hi⟩ := List.getElem?_of_mem hx
  have := withinE_zero.1 (eachE_zero (g := fun _ n => withinE n 0 1000000) h i x hi)
  omega))
 have HCR := Lib.hid (fun (h : ∀ x ∈ ps, -1000000000 ≤ x ∧ x ≤ 1000000000) (o : I3) (k : Nat) => chgK_rng o ms ps h k)
 have HCS := Lib.hid (fun (o : I3) (k : Nat) (m : Mo) (x : Int) (hm : ms[k]? = some m) (hx : ps[k]? = some x) => (show chgK o ms ps (k + 1) = chgK o ms ps k + (if perB o m = true then x else 0) by simp only [chgK]; rw [hm, hx]; rfl))
 have HAY := Lib.hid (fun (k : Nat) (o : I3) (hk : os[k]? = some o) (h : o.2.2 < chgS o ms ps) => (show prA ms os ps = true from List.any_eq_true.2 ⟨o, List.mem_of_getElem? hk, decide_eq_true h⟩))
 have HAN := Lib.hid (fun (h : ∀ (k : Nat) (o : I3), k < os.length → os[k]? = some o → chgS o ms ps ≤ o.2.2) => (show prA ms os ps = false by
  unfold prA
  rw [List.any_eq_false]
  intro o ho
  obtain ⟨k, hk⟩ := List.getElem?_of_mem ho
  have := h k o (List.getElem?_eq_some_iff.1 hk).1 hk
  simp only [decide_eq_true_eq]; omega))
 obtain ⟨E, hE⟩ : ∃ e, e = prE ms os ps := ⟨_, rfl⟩
 obtain ⟨R, hR⟩ : ∃ e, e = prR ms os ps := ⟨_, rfl⟩
 obtain ⟨E2, hE2⟩ : ∃ e, e = prE2 ps := ⟨_, rfl⟩
 obtain ⟨A, hA⟩ : ∃ e, e = prA ms os ps := ⟨_, rfl⟩
 rw [← hE, ← hR] at h1 h2 h3 h4 ⊢
 rw [← hE2] at h2 h3 h4 HT HE HRG
 rw [← hA] at h3 h4 HAY HAN
 obtain ⟨NM, hNM⟩ : ∃ N, N = ms.length := ⟨_, rfl⟩
 obtain ⟨NO, hNO⟩ : ∃ N, N = os.length := ⟨_, rfl⟩
 obtain ⟨NP, hNP⟩ : ∃ N, N = ps.length := ⟨_, rfl⟩
 rw [← hNM] at HM hml h1 h2 h3 h4 ⊢
 rw [← hNO] at HO hol HAN ⊢
 rw [← hNP] at HP hpl h1 h2 h3 h4 ⊢
 have HNM := Lib.hid hNM
 have HNO := Lib.hid hNO
 have HNP := Lib.hid hNP
 have HOR := Lib.hid hor
 have H1 := Lib.hid h1
 have H2 := Lib.hid h2
 have H3 := Lib.hid h3
 have H4 := Lib.hid h4
 have HGv := Lib.hid hGv
 clear hm ho hp hNM hNO hNP h1 h2 h3 h4 hE hR hE2 hA hG hGv hb hor
 by_cases hlen : NP = NM
 ·have z0 : ((NP : Int) != (NM : Int)) = false := by rw [bne_eq_false_iff_eq]; omega
  have HL := Lib.hid hlen
  clear H1 hlen
  go_enter Tryz.func35, Tryz.ntmps35
  go_wp2_with fail
  go_loopw [8, 9] (fun s i wr => ∃ k : Nat, k ≤ NP ∧ i = .int .i64 k ∧ s = .int .i64 (sumK ps k) ∧ firstE ((ps.mapIdx G).take k) = 0 ∧ (∀ j x, j < k → ps[j]? = some x → 0 ≤ x ∧ x ≤ 1000000) ∧ wr = w) (fun _ i _ => NP - (intOf i).toNat)
  case atStart => exact ⟨0, by omega, rfl, rfl, rfl, fun j x hj => by omega, rfl⟩
  case round =>
   obtain ⟨k, hk, rfl, rfl, hf, hall, hwr⟩ := hrel
   subst hwr
   have HF := Lib.hid hf
   have HALL := Lib.hid hall
   clear hf hall
   by_cases hlt : k < NP
   ·have hdk : (k : Int) < (NP : Int) := by omega
    obtain ⟨y, hy⟩ : ∃ x, ps[k]? = some x := ⟨_, List.getElem?_eq_getElem (by rw [← HNP.out]; exact hlt)⟩
    obtain ⟨pb, po, pcap, hpe, hpcs⟩ := HP.out.head (by rw [← HNP.out]; omega)
    simp only [Value.slice.injEq] at hpe
    obtain ⟨rfl, -, rfl⟩ := hpe
    have q0 := hpcs k (by rw [← HNP.out]; exact hlt)
    rw [hy, Option.getD_some] at q0
    have hs := HS.out k y hy HF.out
    have ht := HT.out k y hy HF.out
    rw [HGv.out] at hs ht
    have T0 := Lib.hid (fun W => CheckRange_any y 0 1000000 W)
    have hw0 := @withinE_zero y 0 1000000
    have hsk := sumK_part HALL.out k (Nat.le_refl _)
    have hsum : sumK ps (k + 1) = sumK ps k + y := by simp only [sumK]; rw [hy]; rfl
    have HALL2 := Lib.hid (fun (h : 0 ≤ y ∧ y ≤ 1000000) => (show ∀ j x, j < k + 1 → ps[j]? = some x → 0 ≤ x ∧ x ≤ 1000000 from fun j x hj hx => by
     by_cases e : j = k
     ·subst e; rw [hy] at hx; cases hx; exact h
     ·exact HALL.out j x (by omega) hx))
    obtain ⟨e0, he0⟩ : ∃ e, e = withinE y 0 1000000 := ⟨_, rfl⟩
    rw [← he0] at T0 hs ht hw0
    obtain ⟨SK, hSK⟩ : ∃ s, s = sumK ps k := ⟨_, rfl⟩
    rw [← hSK] at hsk hsum ⊢
    have HS2 := Lib.hid hs
    have HT2 := Lib.hid ht
    have HSM := Lib.hid hsum
    have HW0 := Lib.hid hw0
    clear hpcs hy hs ht hsum he0 hSK hw0
    go_wp2_with fail
    refine (T0.out _).mono ?_
    rintro e w2 ⟨rfl, rfl⟩
    by_cases hz : e0 = 0
    ·have hyr := HW0.out.1 hz
     have HS3 := Lib.hid (HS2.out.trans hz)
     have HA3 := Lib.hid (HALL2.out hyr)
     have hb0 : (e0 != 0) = false := by rw [bne_eq_false_iff_eq]; exact hz
     have q1 : IntKind.i64.wrap (SK + y) = SK + y := IntWalk.i64_in _ (by omega)
     have hy0 : 0 ≤ y := hyr.1
     have hy1 : y ≤ 1000000 := hyr.2
     have hs0 : 0 ≤ SK := hsk.1
     have hs1 : SK ≤ 1000000000 := by omega
     clear hz hyr hsk
     go_wp2
     go_roundw
     case rel => exact ⟨k + 1, by omega, by go_num, by rw [HSM.out], HS3.out, HA3.out, by trivial⟩
     case measure => simp [intOf]; omega
    ·have h2 := HT2.out hz
     have h3 := H2.out HL.out (by rw [h2]; exact hz)
     rw [h2] at h3
     obtain ⟨rfl, rfl⟩ := h3
     have hb0 : (E != 0) = true := by rw [bne_iff_ne]; exact hz
     clear hz h2 H2 H3 H4 HT2 HS2 HW0
     go_wp2
     go_ret2
     exact ⟨rfl, Below.refl _ _⟩
   ·obtain rfl : k = NP := by omega
    have hdk : ¬ (k : Int) < (k : Int) := by omega
    have hz : E2 = 0 := HE.out (by rw [← HNP.out]; exact HF.out)
    have HRR := Lib.hid (HCR.out (HRG.out hz))
    have H3' := Lib.hid (H3.out HL.out hz)
    have H4' := Lib.hid (H4.out HL.out hz)
    obtain ⟨SK, hSK⟩ : ∃ s, s = sumK ps k := ⟨_, rfl⟩
    have h4 := H4'.out
    rw [← hSK] at h4
    rw [← hSK]
    have H5 := Lib.hid h4
    clear h4 H4' H2 H3 H4 hz HT HE HS hSK HRG HCR
    go_wp2_with fail
    go_loopw [11] (fun i wy => ∃ j : Nat, j ≤ NO ∧ i = .int .i64 j ∧ (∀ (q : Nat) (o : I3), q < j → os[q]? = some o → chgS o ms ps ≤ o.2.2) ∧ Below wr.heap.size wr wy) (fun i _ => NO - (intOf i).toNat)
    case atStart => exact ⟨0, by omega, rfl, fun q o hq => by omega, Below.refl _ _⟩
    case round =>
     obtain ⟨j, hj, rfl, hall, hbel⟩ := hrel
     have HALL := Lib.hid hall
     clear hall
     by_cases hjlt : j < NO
     ·have hdj : (j : Int) < (NO : Int) := by omega
      obtain ⟨x, hx⟩ : ∃ x, os[j]? = some x := ⟨_, List.getElem?_eq_getElem (by rw [← HNO.out]; exact hjlt)⟩
      have HX := Lib.hid hx
      obtain ⟨W1, hW1⟩ : ∃ v, v = wr := ⟨_, rfl⟩
      rw [← hW1] at hbel ⊢
      have HB1 := Lib.hid hbel
      clear hx hW1 hbel
      go_wp2_with fail
      go_loopw [12, 13] (fun u i wy => ∃ m : Nat, m ≤ NM ∧ i = .int .i64 m ∧ u = .int .i64 (chgK x ms ps m) ∧ Below W1.heap.size W1 wy) (fun _ i _ => NM - (intOf i).toNat)
      case atStart => exact ⟨0, by omega, rfl, rfl, Below.refl _ _⟩
      case round =>
       obtain ⟨m, hm, rfl, rfl, hbi⟩ := hrel
       by_cases hmlt : m < NM
       ·have hdm : (m : Int) < (NM : Int) := by omega
        have hdp : (m : Int) < (k : Int) := by rw [HL.out]; omega
        obtain ⟨y, hy⟩ : ∃ d, ps[m]? = some d := ⟨_, List.getElem?_eq_getElem (by rw [← HNP.out, HL.out]; exact hmlt)⟩
        obtain ⟨q, hq⟩ : ∃ d, ms[m]? = some d := ⟨_, List.getElem?_eq_getElem (by rw [← HNM.out]; exact hmlt)⟩
        have hbb := bthen HB1.out hbi
        obtain ⟨pb, po, pcap, hpe, hpcs⟩ := (Ints.below HP.out hbb).head (by rw [← HNP.out, HL.out]; omega)
        simp only [Value.slice.injEq] at hpe
        obtain ⟨rfl, -, rfl⟩ := hpe
        have q0 := hpcs m (by rw [← HNP.out, HL.out]; exact hmlt)
        rw [hy, Option.getD_some] at q0
        obtain ⟨mb, mo, mcap, hme, hmcs⟩ := (HM.out.carry hbb).head (by rw [← HNM.out]; omega)
        simp only [Value.slice.injEq] at hme
        obtain ⟨rfl, -, rfl⟩ := hme
        obtain ⟨m0, m1, m2, m3⟩ := rw4 (hmcs m q hq) (show mV q = [.string q.1, .int .i64 q.2.1, .int .i64 q.2.2.1, .int .i64 q.2.2.2] from rfl)
        obtain ⟨ob, oo, ocap, he, hcs⟩ := (HO.out.carry hbb).head (by rw [← HNO.out]; omega)
        simp only [Value.slice.injEq] at he
        obtain ⟨rfl, -, rfl⟩ := he
        obtain ⟨c0, c1, c2⟩ := rw3 (hcs j x HX.out) (show iV x = [.int .i64 x.1, .int .i64 x.2.1, .int .i64 x.2.2] from rfl)
        have ht := HCS.out x m q y hq hy
        have ht0 := HRR.out x m
        have ht1 := HRR.out x (m + 1)
        rw [ht] at ht1
        obtain ⟨s, y1, y2, y3⟩ := q
        obtain ⟨x0, x1, x2⟩ := x
        dsimp only at m0 m1 m2 m3 c0 c1 c2
        have TI := Lib.hid (fun W => IsPermitted_any x0 x1 x2 s y1 y2 y3 W)
        obtain ⟨pb2, hpb⟩ : ∃ b, b = perB (x0, x1, x2) (s, y1, y2, y3) := ⟨_, rfl⟩
        rw [← hpb] at TI ht ht1
        obtain ⟨Z, hZ⟩ : ∃ Z, Z = chgK (x0, x1, x2) ms ps m := ⟨_, rfl⟩
        rw [← hZ] at ht ht0 ht1 ⊢
        have HTT := Lib.hid ht
        have HT0 := Lib.hid ht0
        have HT1 := Lib.hid ht1
        have hNMr : NM ≤ 8 := hml
        clear hpcs hmcs hcs hy hq ht ht0 ht1 hpb hZ
        go_upto_region 18 with fail
        refine wp_region_E 99 (by kernel_rfl) ?_
        obtain ⟨wz, hwz⟩ : ∃ v, v = wr.drew := ⟨_, rfl⟩
        rw [← hwz]
        have hlz : Below wr.heap.size wr wz := by rw [hwz]; exact (Below.refl _ _).drew
        have hbz := bthen hbi hlz
        have c0 := cellb c0 hlz
        have c1 := cellb c1 hlz
        have c2 := cellb c2 hlz
        have m0 := cellb m0 hlz
        have m1 := cellb m1 hlz
        have m2 := cellb m2 hlz
        have m3 := cellb m3 hlz
        have q0 := cellb q0 hlz
        clear hwz hlz
        refine zV 0 ⟨some 51, .move (.tmp 0), 48, "ref.go:603", #[], none⟩ rfl ?_
        simp only [Act.put, zS]
        refine zV 1 ⟨some 52, .move (.tmp 13), 3, "ref.go:603", #[], none⟩ rfl ?_
        simp only [Act.put, zS]
        refine zV 2 ⟨some 53, .indexAddr 48 (.tmp 51) (.tmp 52), 0, "ref.go:603", #[⟨0, .data⟩, ⟨1, .data⟩], none⟩ rfl ?_
        simp only [Act.put, zS]
        refine zV 3 ⟨some 54, .load 143 (.tmp 53), 143, "ref.go:603", #[⟨2, .data⟩], none⟩ rfl ?_ (hv := fun w hE => by have c0 := cellb c0 hE; have c1 := cellb c1 hE; have c2 := cellb c2 hE; have m0 := cellb m0 hE; have m1 := cellb m1 hE; have m2 := cellb m2 hE; have m3 := cellb m3 hE; have q0 := cellb q0 hE; (try dsimp only); go_simp; try rfl)
        simp only [Act.put, zS]
        refine zV 4 ⟨some 55, .move (.tmp 1), 49, "ref.go:603", #[], none⟩ rfl ?_
        simp only [Act.put, zS]
        refine zV 5 ⟨some 56, .move (.tmp 11), 3, "ref.go:603", #[], none⟩ rfl ?_
        simp only [Act.put, zS]
        refine zV 6 ⟨some 57, .indexAddr 49 (.tmp 55) (.tmp 56), 0, "ref.go:603", #[⟨4, .data⟩, ⟨5, .data⟩], none⟩ rfl ?_
        simp only [Act.put, zS]
        refine zV 7 ⟨some 58, .load 88 (.tmp 57), 88, "ref.go:603", #[⟨6, .data⟩], none⟩ rfl ?_ (hv := fun w hE => by have c0 := cellb c0 hE; have c1 := cellb c1 hE; have c2 := cellb c2 hE; have m0 := cellb m0 hE; have m1 := cellb m1 hE; have m2 := cellb m2 hE; have m3 := cellb m3 hE; have q0 := cellb q0 hE; (try dsimp only); go_simp; try rfl)
        simp only [Act.put, zS]
        refine zB 8 ⟨some 59, .call ⟨.value (.func 101), #[.tmp 54, .tmp 58], #[143, 88]⟩, 4, "ref.go:603", #[⟨3, .data⟩, ⟨7, .data⟩], none⟩ (fun w hE => TI.out w) rfl ?_
        simp only [Act.put, zS]
        refine wpAnyE_done (by kernel_rfl) (fun wy1 hE => ?_) _
        have hbz1 := bthen hbz hE
        have c0 := cellb c0 hE
        have c1 := cellb c1 hE
        have c2 := cellb c2 hE
        have m0 := cellb m0 hE
        have m1 := cellb m1 hE
        have m2 := cellb m2 hE
        have m3 := cellb m3 hE
        have q0 := cellb q0 hE
        clear hE
        have hbi2 := hbz1
        obtain ⟨W9, hW9⟩ : ∃ v, v = wy1 := ⟨_, rfl⟩
        rw [← hW9] at hbi2 q0 ⊢
        clear hW9
        clear c0 c1 c2 m0 m1 m2 m3 TI hbi hbb
        cases pb2 with
        | true =>
          have h0 := HT0.out
          have h1 := HT1.out
          rw [if_pos rfl] at h1
          have hr1 : IntKind.i64.wrap (Z + y) = Z + y := IntWalk.i64_in _ (by omega)
          have hZ0 : -1000000000000 ≤ Z ∧ Z ≤ 1000000000000 := by omega
          have hZ1 : -1000000000000 ≤ Z + y ∧ Z + y ≤ 1000000000000 := by omega
          clear h0 h1 HT0 HT1
          go_wp2
          go_roundw
          case rel => exact ⟨m + 1, by omega, by go_num, by rw [HTT.out]; rfl, hbi2⟩
          case measure => simp [intOf]; omega
        | false =>
          clear HT0 HT1
          go_wp2
          go_roundw
          case rel => exact ⟨m + 1, by omega, by go_num, by rw [HTT.out, if_neg (by decide), Int.add_zero], hbi2⟩
          case measure => simp [intOf]; omega
       ·obtain rfl : m = NM := by omega
        have hdm : ¬ (m : Int) < (m : Int) := by omega
        have hbb := bthen HB1.out hbi
        obtain ⟨ob, oo, ocap, he, hcs⟩ := (HO.out.carry hbb).head (by rw [← HNO.out]; omega)
        simp only [Value.slice.injEq] at he
        obtain ⟨rfl, -, rfl⟩ := he
        obtain ⟨-, -, c2⟩ := rw3 (hcs j x HX.out) (show iV x = [.int .i64 x.1, .int .i64 x.2.1, .int .i64 x.2.2] from rfl)
        have hch : chgK x ms ps m = chgS x ms ps := by unfold chgS; rw [← HNP.out, HL.out]
        rw [hch]
        have HN := Lib.hid (fun h => HAY.out j x HX.out h)
        have HY := Lib.hid (fun (h : chgS x ms ps ≤ x.2.2) => (show ∀ (q : Nat) (o : I3), q < j + 1 → os[q]? = some o → chgS o ms ps ≤ o.2.2 from fun q o hq ho => by
         by_cases e : q = j
         ·subst e; rw [HX.out] at ho; cases ho; exact h
         ·exact HALL.out q o (by omega) ho))
        obtain ⟨Z, hZ⟩ : ∃ Z, Z = chgS x ms ps := ⟨_, rfl⟩
        obtain ⟨H, hH⟩ : ∃ Z, Z = x.2.2 := ⟨_, rfl⟩
        rw [← hZ] at HN HY ⊢
        rw [← hH] at HN HY c2
        clear hcs hZ hH hch hbi
        by_cases hgt : H < Z
        ·obtain rfl : A = true := HN.out hgt
         obtain ⟨rfl, rfl⟩ := H3'.out rfl
         clear HN HY H3' H5 HAY HAN
         go_wp2
         go_ret2
         exact ⟨rfl, hbb⟩
        ·have HA2 := Lib.hid (HY.out (by omega))
         have hb0 : decide (H < Z) = false := decide_eq_false hgt
         clear hgt HN HY
         go_wp2
         go_roundw
         case rel => exact ⟨j + 1, by omega, by go_num, HA2.out, hbb⟩
         case measure => simp [intOf]; omega
     ·obtain rfl : j = NO := by omega
      have hdj : ¬ (j : Int) < (j : Int) := by omega
      obtain rfl : A = false := HAN.out HALL.out
      obtain ⟨rfl, rfl⟩ := H5.out rfl
      clear HAN HAY H3' H5
      go_wp2
      go_ret2
      exact ⟨rfl, hbel⟩
 ·have z0 : ((NP : Int) != (NM : Int)) = true := by rw [bne_iff_ne]; omega
  obtain ⟨rfl, rfl⟩ := H1.out hlen
  clear H1 H2 H3 H4 hlen
  go_enter Tryz.func35, Tryz.ntmps35
  go_wp2
  go_ret2
  exact ⟨rfl, Below.refl _ _⟩
end Go.Proofs.YtjcmohfpenfepaaGreatDoor
